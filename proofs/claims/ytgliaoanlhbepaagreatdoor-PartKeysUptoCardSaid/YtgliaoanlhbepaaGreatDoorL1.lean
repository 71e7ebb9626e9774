/- The plain law: what the program computes and what the reference computes are the same. -/
import Derived.Test.YtgliaoanlhbepaaGreatDoorQ3
import Derived.IntWalk
import Derived.Laws.Cover4
import Derived.Lib.ItoaLen
import Derived.Test.YtgliaoanlhbepaaGreatDoorQ9
import Derived.Test.YtgliaoanlhbepaaGreatDoorQ13
section
namespace Go.Proofs.YtgliaoanlhbepaaGreatDoor.Q
open Go.RowKit Go.Proofs.bT.eG Go.Proofs.bT.iM Go.Proofs.bT.jd
set_option linter.unusedVariables false
set_option linter.unusedSimpArgs false
def Ends {α : Type} (g : Nat → Option α) (r : α) : Prop := ∃ k, ∀ j, k ≤ j → g j = some r
namespace Ends
variable {α β : Type}
theorem of {g : Nat → Option α} (hm : ∀ k, aN (g k) (g (k + 1))) {k : Nat} {r : α} (h : g k = some r) : Ends g r := by
 refine ⟨k, fun j hj => ?_⟩
 induction hj with
 | refl => exact h
 | step _ ih => exact hm _ _ ih
theorem val (r : α) : Ends (fun _ => some r) r := ⟨0, fun _ _ => rfl⟩
theorem bind {g : Nat → Option α} {h : Nat → α → Option β} {a : α} {b : β} (hg : Ends g a) (hh : Ends (fun k => h k a) b) : Ends (fun k => (g k).bind (h k)) b := by
 obtain ⟨k1, h1⟩ := hg
 obtain ⟨k2, h2⟩ := hh
 refine ⟨max k1 k2, fun j hj => ?_⟩
 show (g j).bind _ = _
 rw [h1 j (by omega)]
 exact h2 j (by omega)
theorem succ {g g' : Nat → Option α} {r : α} (h : Ends g' r) (e : ∀ k, g (k + 1) = g' k) : Ends g r := by
 obtain ⟨k, h⟩ := h
 refine ⟨k + 1, fun j hj => ?_⟩
 obtain ⟨i, rfl⟩ : ∃ i, j = i + 1 := ⟨j - 1, by omega⟩
 rw [e]; exact h i (by omega)
theorem pos {c : Prop} [Decidable c] {g g' : Nat → Option α} {r : α} (hc : c) (h : Ends g r) : Ends (fun k => if c then g k else g' k) r := by
 simp only [if_pos hc]; exact h
theorem neg {c : Prop} [Decidable c] {g g' : Nat → Option α} {r : α} (hc : ¬ c) (h : Ends g' r) : Ends (fun k => if c then g k else g' k) r := by
 simp only [if_neg hc]; exact h
theorem uniq {g : Nat → Option α} {r s : α} (h : Ends g r) (h' : Ends g s) : r = s := by
 obtain ⟨k, h⟩ := h
 obtain ⟨k', h'⟩ := h'
 have := h (max k k') (by omega)
 rw [h' _ (by omega)] at this
 exact (Option.some.inj this).symm
end Ends
def bf {α : Type} (g : Nat → Option α) : Prop := ∃ r, Ends g r
namespace bf
variable {α β : Type}
theorem val (r : α) : bf (fun _ => some r) := ⟨r, .val r⟩
theorem bind {g : Nat → Option α} {h : Nat → α → Option β} (hg : bf g) (hh : ∀ a, Ends g a → bf (fun k => h k a)) : bf (fun k => (g k).bind (h k)) := by
 obtain ⟨a, ha⟩ := hg
 obtain ⟨b, hb⟩ := hh a ha
 exact ⟨b, ha.bind hb⟩
theorem succ {g g' : Nat → Option α} (h : bf g') (e : ∀ k, g (k + 1) = g' k) : bf g := by
 obtain ⟨r, h⟩ := h
 exact ⟨r, h.succ e⟩
theorem ite {c : Prop} [Decidable c] {g g' : Nat → Option α} (h : c → bf g) (h' : ¬ c → bf g') : bf (fun k => if c then g k else g' k) := by
 by_cases hc : c
 ·simp only [if_pos hc]; exact h hc
 ·simp only [if_neg hc]; exact h' hc
theorem pos {c : Prop} [Decidable c] {g g' : Nat → Option α} (hc : c) (h : bf g) : bf (fun k => if c then g k else g' k) := by
 simp only [if_pos hc]; exact h
end bf
theorem jR {n : Int} (h0 : -9223372036854775808 ≤ n) (h1 : n ≤ 9223372036854775807) : wrap64 n = n := by unfold wrap64; omega
theorem Q8 (s : ByteArray) (hs : s.size ≤ 1000) : ∀ (m : Nat) (n : Int), 0 ≤ n → (s.size : Int) - n ≤ m → bf (fun k => Go.Proofs.fM.oO s k n)
 | 0, n, h0, h1 => bf.succ (g' := fun _ => some n) (.val _) (fun k => by unfold Go.Proofs.fM.oO; rw [if_neg (by omega)])
 | m + 1, n, h0, h1 => by
  refine bf.succ ?_ (fun k => by rw [Go.Proofs.fM.oO])
  refine bf.ite (fun hn => bf.pos h0 (bf.ite (fun _ => ?_) fun _ => .val _)) fun _ => .val _
  rw [jR (by omega) (by omega)]
  exact Q8 s hs m (n + 1) (by omega) (by omega)
theorem Zb (s : ByteArray) (hs : s.size ≤ 1000) : bf (fun k => mY.f k s) := by
 unfold mY.f Go.Proofs.fM.yO
 exact bf.ite (fun _ => .val _) fun _ => bf.ite (fun _ => bf.bind (Q8 s hs s.size 0 (by omega) (by omega)) fun _ _ => .val _) fun _ => .val _
theorem Q9 (l : List ByteArray) (s : ByteArray) (hl : l.length ≤ 1000) : ∀ (m : Nat) (n : Int), 0 ≤ n → (l.length : Int) - n ≤ m → bf (fun k => iG.l0 k l s (l.length : Int) n)
 | 0, n, h0, h1 => bf.succ (g' := fun _ => some (-1)) (.val _) (fun k => by unfold iG.l0; rw [if_neg (by omega)])
 | m + 1, n, h0, h1 => by
  refine bf.succ ?_ (fun k => by rw [iG.l0])
  refine bf.ite (fun hn => bf.pos h0 (bf.pos hn (bf.ite (fun _ => .val _) fun _ => ?_))) fun _ => .val _
  rw [jR (by omega) (by omega)]
  exact Q9 l s hl m (n + 1) (by omega) (by omega)
theorem Zc : Go.Proofs.fM.j3.length ≤ 1000 := by
 have : Nat.ble Go.Proofs.fM.j3.length 100 = true := by kernel_rfl
 have := Nat.le_of_ble_eq_true this
 omega
theorem Zd (s : ByteArray) : bf (fun k => mI.f k s) := by
 unfold mI.f pW.f iG.f
 exact bf.bind (Q9 _ s Zc _ 0 (by omega) (by omega : ((Go.Proofs.fM.j3.length : Nat) : Int) - 0 ≤ (Go.Proofs.fM.j3.length : Nat))) fun _ _ => .val _
theorem Q_ : ∀ (m : Nat) (n : Int) (t : ByteArray), 0 ≤ n → n ≤ m → n ≤ 9223372036854775807 → t.size + 4 * m ≤ 1000000000000000000 → bf (fun k => dW.l0 k n 10 t) := by
 intro m
 induction m using Nat.strongRecOn with
 | _ m ih =>
  intro n t h0 hm h1 ht
  refine bf.succ ?_ (fun k => by rw [dW.l0])
  refine bf.ite (fun hn => bf.ite (fun h => absurd h (by decide)) fun _ => ?_) fun hn => ?_
  ·have e1 : Int.tmod n 10 = n % 10 := Int.tmod_eq_emod_of_nonneg h0
   have e2 : Int.tdiv n 10 = n / 10 := Int.tdiv_eq_ediv_of_nonneg h0
   rw [e1, e2]
   have hz := encode_size_le (bt (⟨#[48, 49, 50, 51, 52, 53, 54, 55, 56, 57, 97, 98, 99, 100, 101, 102]⟩ : ByteArray) (n % 10))
   refine bf.pos (by omega) (bf.pos (by omega) (bf.pos (by omega) ?_))
   rw [jR (by omega) (by omega)]
   exact ih (n / 10).toNat (by omega) (n / 10) _ (by omega) (by omega) (by omega) (by rw [ByteArray.size_append]; omega)
  ·have hz := encode_size_le (bt (⟨#[48, 49, 50, 51, 52, 53, 54, 55, 56, 57, 97, 98, 99, 100, 101, 102]⟩ : ByteArray) n)
   exact bf.pos h0 (bf.pos (by omega) (bf.pos (by omega) (.val _)))
theorem Ze : ∀ (m : Nat) (n : Int) (t : ByteArray) (k : Nat) (r : ByteArray), 0 ≤ n → n ≤ m → n ≤ 9223372036854775807 → dW.l0 k n 10 t = some r → r.size ≤ t.size + 4 * m + 4 := by
 intro m
 induction m using Nat.strongRecOn with
 | _ m ih =>
  intro n t k r h0 hm h1 h
  cases k with
  | zero => simp [dW.l0] at h
  | succ k =>
   rw [dW.l0] at h
   split at h
   ·split at h
    ·cases h
    split at h
    case isFalse => cases h
    split at h
    case isFalse => cases h
    split at h
    case isFalse => cases h
    have e1 : Int.tmod n 10 = n % 10 := Int.tmod_eq_emod_of_nonneg h0
    have e2 : Int.tdiv n 10 = n / 10 := Int.tdiv_eq_ediv_of_nonneg h0
    rw [e1, e2, jR (by omega) (by omega)] at h
    have hz := encode_size_le (bt (⟨#[48, 49, 50, 51, 52, 53, 54, 55, 56, 57, 97, 98, 99, 100, 101, 102]⟩ : ByteArray) (n % 10))
    have := ih (n / 10).toNat (by omega) (n / 10) _ k r (by omega) (by omega) (by omega) h
    rw [ByteArray.size_append] at this
    omega
   ·split at h
    case isFalse => cases h
    split at h
    case isFalse => cases h
    obtain rfl := Option.some.inj h
    have hz := encode_size_le (bt (⟨#[48, 49, 50, 51, 52, 53, 54, 55, 56, 57, 97, 98, 99, 100, 101, 102]⟩ : ByteArray) n)
    rw [ByteArray.size_append]
    omega
theorem Ra (n : Int) (h0 : -1000000000000000 ≤ n) (h1 : n ≤ 1000000000000000) : bf (fun k => dW.f k n 10) := by
 have e : (⟨#[]⟩ : ByteArray).size = 0 := rfl
 refine bf.succ ?_ (fun k => by rw [dW.f])
 refine bf.ite (fun hn => ?_) fun hn => ?_
 ·rw [jR (by omega) (by omega)]
  have hh : bf (fun k => dW.f k (-n) 10) := bf.succ (Q_ (-n).toNat (-n) ⟨#[]⟩ (by omega) (by omega) (by omega) (by rw [e]; omega)) (fun k => by rw [dW.f, if_neg (by omega)])
  refine bf.bind hh fun a ha => ?_
  obtain ⟨k, hk⟩ := ha
  have hk : dW.f (k + 1) (-n) 10 = some a := hk (k + 1) (by omega)
  rw [dW.f, if_neg (by omega)] at hk
  have := Ze (-n).toNat (-n) _ k a (by omega) (by omega) (by omega) hk
  exact bf.pos (by omega) (.val _)
 ·exact Q_ n.toNat n _ (by omega) (by omega) (by omega) (by rw [e]; omega)
theorem Rb (s x : ByteArray) (a : Int) : bf (fun k => (if (x.size : Int) < (s.size : Int) then (if (wrap64 (-a)) < (-1099511627776) then (some (0, 2)) else (if (wrap64 (-a)) > 1099511627776 then (some (0, 2)) else ((dW.f k (wrap64 (-a)) 10).bind fun t112 => (if t112.toList = s.toList then (some (wrap64 (-a), 0)) else (some (0, 2)))))) else (if a < (-1099511627776) then (some (0, 2)) else (if a > 1099511627776 then (some ((0, 2) : Int × Int)) else ((dW.f k a 10).bind fun t113 => (if t113.toList = s.toList then (some (a, 0)) else (some (0, 2)))))))) := by
 refine bf.ite (fun _ => ?_) fun _ => ?_
 ·exact bf.ite (fun _ => .val _) fun _ => bf.ite (fun _ => .val _) fun _ => bf.bind (Ra _ (by omega) (by omega)) fun _ _ => bf.ite (fun _ => .val _) fun _ => .val _
 ·exact bf.ite (fun _ => .val _) fun _ => bf.ite (fun _ => .val _) fun _ => bf.bind (Ra _ (by omega) (by omega)) fun _ _ => bf.ite (fun _ => .val _) fun _ => .val _
theorem Rc (s x : ByteArray) (hx : x.size ≤ 1000) : ∀ (m : Nat) (a n : Int), 0 ≤ n → (x.size : Int) - n ≤ m → bf (fun k => gq.l0 k s 10 a x (x.size : Int) n)
 | 0, a, n, h0, h1 => by
  refine bf.succ ?_ (fun k => by rw [gq.l0])
  exact bf.ite (fun hn => by omega) fun _ => Rb s x a
 | m + 1, a, n, h0, h1 => by
  refine bf.succ ?_ (fun k => by rw [gq.l0])
  refine bf.ite (fun hn => ?_) fun _ => Rb s x a
  refine bf.pos (by decide) (bf.pos (by decide) (bf.pos h0 (bf.pos hn (bf.bind (.val _) fun t ht => bf.ite (fun _ => .val _) fun _ => bf.ite (fun _ => .val _) fun _ => ?_))))
  rw [jR (n := n + 1) (by omega) (by omega)]
  exact Rc s x hx m _ (n + 1) (by omega) (by omega)
theorem Zf (s t : ByteArray) : ∃ r, strings_TrimPrefix.f s t = some r ∧ r.size ≤ s.size := by
 unfold strings_TrimPrefix.f stringslite_TrimPrefix.f stringslite_HasPrefix.f
 by_cases h : (s.size : Int) ≥ (t.size : Int)
 ·rw [if_pos h, if_pos (by omega), if_pos (by omega)]
  simp only [Option.bind_some]
  split
  ·exact ⟨_, rfl, by rw [ByteArray.size_extract]; omega⟩
  ·exact ⟨_, rfl, Nat.le_refl _⟩
 ·rw [if_neg h]
  exact ⟨_, rfl, Nat.le_refl _⟩
theorem Zg (s : ByteArray) (hs : s.size ≤ 1000) : bf (fun k => gq.f k s 10) := by
 unfold gq.f
 have e : pX.f 10 = some true := rfl
 obtain ⟨r, hr, hz⟩ := Zf s ⟨#[45]⟩
 simp only [e, hr, Option.bind_some, if_true]
 exact Rc s r (by omega) r.size 0 0 (by omega) (by omega)
theorem Zh (s : ByteArray) (hs : s.size ≤ 1000) : bf (fun k => gD.f k s) := by
 have hj : ∀ b, (1 ≤ s.size) → bf (fun k => gD.j0 k s b) := by
  intro b hb
  refine bf.succ ?_ (fun k => by rw [gD.j0])
  refine bf.ite (fun _ => .val _) fun _ => bf.pos (by omega) (bf.bind (Zg _ (by rw [ByteArray.size_extract]; omega)) fun a _ => bf.pos (by omega) (bf.ite (fun _ => ?_) fun _ => .val _))
  unfold gK.f
  by_cases h1 : a.1 < 1
  ·simp only [if_pos h1, Option.bind_some]; exact bf.ite (fun _ => .val _) fun _ => .val _
  ·by_cases h2 : a.1 > 31
   ·simp only [if_neg h1, if_pos h2, Option.bind_some]; exact bf.ite (fun _ => .val _) fun _ => .val _
   ·simp only [if_neg h1, if_neg h2, Option.bind_some]; exact bf.ite (fun _ => .val _) fun _ => .val _
 unfold gD.f
 refine bf.ite (fun h => ?_) fun h => bf.pos (by omega) (bf.ite (fun _ => hj _ (by omega)) fun _ => hj _ (by omega))
 exact bf.succ (g' := fun _ => some (false, 0, 2)) (.val _) (fun k => by rw [gD.j0, if_pos rfl])
theorem Zi (s : ByteArray) : bf (fun k => kU.f k s) := by
 unfold kU.f
 refine bf.ite (fun _ => .val _) fun h => ?_
 exact bf.bind (Zb s (by omega)) fun _ _ => bf.ite (fun _ => bf.bind (Zd s) fun _ _ => bf.ite (fun _ => .val _) fun _ => bf.bind (Zh s (by omega)) fun _ _ => .val _) fun _ => .val _
end Go.Proofs.YtgliaoanlhbepaaGreatDoor.Q
end
section
namespace Go.Proofs.YtgliaoanlhbepaaGreatDoor.Q
open Go.RowKit Go.Proofs.bT.eG Go.Proofs.bT.iM Go.Proofs.bT.jd
set_option linter.unusedVariables false
set_option linter.unusedSimpArgs false
theorem Zj : ∀ d : Fin 10, (⟨#[48, 49, 50, 51, 52, 53, 54, 55, 56, 57, 97, 98, 99, 100, 101, 102]⟩ : ByteArray).extract d.val (d.val + 1) = ⟨#[UInt8.ofNat (48 + d.val)]⟩ := by decide +kernel
theorem Rf (n : Int) (h0 : 0 ≤ n) (h1 : n < 10) : (⟨#[48, 49, 50, 51, 52, 53, 54, 55, 56, 57, 97, 98, 99, 100, 101, 102]⟩ : ByteArray).extract (n : Int).toNat ((wrap64 (n + 1)) : Int).toNat = ⟨#[UInt8.ofNat (48 + n.toNat)]⟩ := by
 rw [jR (by omega) (by omega)]
 have e : (n + 1).toNat = n.toNat + 1 := by omega
 rw [e]
 exact Zj ⟨n.toNat, by omega⟩
theorem BI (c : UInt8) (l : List UInt8) : (⟨#[c]⟩ : ByteArray) ++ ⟨l.toArray⟩ = ⟨(c :: l).toArray⟩ := by
 apply ByteArray.ext
 rw [ByteArray.data_append]
 simp
theorem size_bytes (l : List UInt8) : (⟨l.toArray⟩ : ByteArray).size = l.length := rfl
theorem Zk : ∀ (m : Nat) (n : Int) (l : List UInt8), 0 ≤ n → n ≤ m → n ≤ 1000000000000000 → l.length + m ≤ 1000000000000000000 → Ends (fun k => fZ.l0 k n 10 ⟨l.toArray⟩) ⟨(Go.Lib.decDigits n.toNat ++ l).toArray⟩ := by
 intro m
 induction m using Nat.strongRecOn with
 | _ m ih =>
  intro n l h0 hm h1 ht
  refine Ends.succ ?_ (fun k => by rw [fZ.l0])
  by_cases hn : n ≥ 10
  ·have e1 : Int.tmod n 10 = n % 10 := Int.tmod_eq_emod_of_nonneg h0
   have e2 : Int.tdiv n 10 = n / 10 := Int.tdiv_eq_ediv_of_nonneg h0
   rw [e1, e2, Rf (n % 10) (by omega) (by omega), BI]
   have ew : wrap64 (n % 10 + 1) = n % 10 + 1 := jR (by omega) (by omega)
   have ez : (⟨#[UInt8.ofNat (48 + (n % 10).toNat)]⟩ : ByteArray).size = 1 := rfl
   have es := size_bytes l
   rw [ew, ez, jR (n := n / 10) (by omega) (by omega)]
   refine Ends.pos hn (Ends.neg (by decide) (Ends.pos (by omega) (Ends.pos (by omega) (Ends.pos (by omega) (Ends.pos (by omega) ?_)))))
   have := ih (n / 10).toNat (by omega) (n / 10) (UInt8.ofNat (48 + (n % 10).toNat) :: l) (by omega) (by omega) (by omega) (by simp only [List.length_cons]; omega)
   have e3 : Go.Lib.decDigits n.toNat ++ l = Go.Lib.decDigits (n / 10).toNat ++ (UInt8.ofNat (48 + (n % 10).toNat) :: l) := by
    rw [Go.Lib.decDigits, dif_neg (by omega)]
    have e4 : n.toNat / 10 = (n / 10).toNat := by omega
    have e5 : n.toNat % 10 = (n % 10).toNat := by omega
    rw [e4, e5, List.append_assoc]; rfl
   rw [e3]
   exact this
  ·rw [Rf n h0 (by omega), BI]
   have ew : wrap64 (n + 1) = n + 1 := jR (by omega) (by omega)
   have ez : (⟨#[UInt8.ofNat (48 + n.toNat)]⟩ : ByteArray).size = 1 := rfl
   have es := size_bytes l
   rw [ew, ez]
   refine Ends.neg hn (Ends.pos h0 (Ends.pos (by omega) (Ends.pos (by omega) (Ends.pos (by omega) ?_))))
   have e3 : Go.Lib.decDigits n.toNat ++ l = UInt8.ofNat (48 + n.toNat) :: l := by
    rw [Go.Lib.decDigits, dif_pos (by omega)]; rfl
   rw [e3]
   exact .val _
theorem BJ (n : Int) (h0 : -1000000000000000 ≤ n) (h1 : n ≤ 1000000000000000) : (Go.Lib.itoa n).length ≤ 21 := Go.Lib.itoa_length_le n (by omega) (by omega)
theorem Rh (n : Int) (h0 : -1000000000000000 ≤ n) (h1 : n ≤ 1000000000000000) : Ends (fun k => jS.f k n) ⟨(Go.Lib.itoa n).toArray⟩ := by
 have hp : ∀ p : Int, 0 ≤ p → p ≤ 1000000000000000 → Ends (fun k => fZ.f k p 10) ⟨(Go.Lib.itoa p).toArray⟩ := by
  intro p h0 h1
  refine Ends.succ ?_ (fun k => by rw [fZ.f, if_neg (by omega)])
  have := Zk p.toNat p [] h0 (by omega) h1 (by simp only [List.length_nil]; omega)
  rw [List.append_nil] at this
  unfold Go.Lib.itoa
  rw [if_neg (by omega)]
  exact this
 have hb : Ends (fun k => fZ.f k n 10) ⟨(Go.Lib.itoa n).toArray⟩ := by
  by_cases hn : n < 0
  ·refine Ends.succ ?_ (fun k => by rw [fZ.f, if_pos hn])
   rw [jR (by omega) (by omega)]
   refine Ends.bind (hp (-n) (by omega) (by omega)) ?_
   have hl := BJ (-n) (by omega) (by omega)
   refine Ends.pos (by rw [size_bytes]; omega) ?_
   rw [BI]
   have e : Go.Lib.itoa n = 45 :: Go.Lib.itoa (-n) := by
    unfold Go.Lib.itoa
    rw [if_pos hn, if_neg (by omega)]
    congr 2
    omega
   rw [e]
   exact .val _
  ·exact hp n (by omega) h1
 unfold jS.f
 exact hb.bind (.val _)
theorem K7 (b : Bool) (n : Int) (h0 : 0 ≤ n) (h1 : n ≤ 1000) : Ends (fun k => jk.f k b n) ⟨((if b = true then 105 else 117) :: Go.Lib.itoa n).toArray⟩ := by
 have hl := BJ n (by omega) (by omega)
 have hd := Rh n (by omega) (by omega)
 unfold jk.f
 cases b
 ·refine Ends.neg (by decide) (hd.bind (Ends.pos (by rw [size_bytes]; omega) ?_))
  rw [BI]; exact .val _
 ·refine Ends.pos rfl (hd.bind (Ends.pos (by rw [size_bytes]; omega) ?_))
  rw [BI]; exact .val _
theorem Ri (s : ByteArray) : ∀ (m : Nat) (n : Int), 0 ≤ n → n ≤ 100 → 32 - n ≤ m → bf (fun k => gI.l0 k s n)
 | 0, n, h0, h1, hm => by
  refine bf.succ ?_ (fun k => by rw [gI.l0])
  exact bf.ite (fun h => by omega) fun _ => .val _
 | m + 1, n, h0, h1, hm => by
  refine bf.succ ?_ (fun k => by rw [gI.l0])
  refine bf.ite (fun h => bf.bind ⟨_, K7 _ n h0 (by omega)⟩ fun _ _ => bf.ite (fun _ => .val _) fun _ => bf.bind ⟨_, K7 _ n h0 (by omega)⟩ fun _ _ => bf.ite (fun _ => .val _) fun _ => ?_) fun _ => .val _
  rw [jR (by omega) (by omega)]
  exact Ri s m (n + 1) (by omega) (by omega) (by omega)
theorem K8 (a : Int) : ∃ b, fC.f a = some b := by
 cases h : fC.f a with
 | some b => exact ⟨b, rfl⟩
 | none => unfold fC.f at h; (repeat' split at h) <;> cases h
theorem Rj (a : Int) : ∃ b, iD.f a = some b := by
 cases h : iD.f a with
 | some b => exact ⟨b, rfl⟩
 | none => unfold iD.f at h; (repeat' split at h) <;> cases h
theorem K9 (s : ByteArray) (hs : s.size ≤ 1000) : ∀ (m : Nat) (n : Int), 0 ≤ n → n ≤ s.size → (s.size : Int) - n ≤ m → ∃ r, Ends (fun k => dJ.l0 k s n) r ∧ n ≤ r ∧ r ≤ s.size ∧ (n < s.size → (fC.f (bt s n) = some true ∨ iD.f (bt s n) = some true) → n < r)
 | 0, n, h0, h1, hm => ⟨n, Ends.succ (g' := fun _ => some n) (.val _) (fun k => by rw [dJ.l0, if_neg (by omega)]), by omega, by omega, fun h => by omega⟩
 | m + 1, n, h0, h1, hm => by
  by_cases hn : n < (s.size : Int)
  ·obtain ⟨r, hr, h2, h3, _⟩ := K9 s hs m (n + 1) (by omega) (by omega) (by omega)
   obtain ⟨b, hb⟩ := K8 (bt s n)
   obtain ⟨c, hc⟩ := Rj (bt s n)
   have hw : wrap64 (n + 1) = n + 1 := jR (by omega) (by omega)
   cases b with
   | true =>
    exact ⟨r, Ends.succ hr (fun k => by rw [dJ.l0, if_pos hn, if_pos h0, hb, hw]; rfl), by omega, h3, fun _ _ => by omega⟩
   | false =>
    cases c with
    | true =>
     exact ⟨r, Ends.succ hr (fun k => by rw [dJ.l0, if_pos hn, if_pos h0, hb, hc, hw]; rfl), by omega, h3, fun _ _ => by omega⟩
    | false =>
     exact ⟨n, Ends.succ (g' := fun _ => some n) (.val _) (fun k => by rw [dJ.l0, if_pos hn, if_pos h0, hb, hc]; rfl), by omega, by omega, fun _ h => by rw [hb, hc] at h; simp at h⟩
  ·exact ⟨n, Ends.succ (g' := fun _ => some n) (.val _) (fun k => by rw [dJ.l0, if_neg hn]), by omega, by omega, fun h => by omega⟩
theorem Rk (s : ByteArray) (hs : s.size ≤ 1000) (a : Int) (h0 : 0 ≤ a) (ha : a ≤ 1000) (l : List ByteArray) (hl : ∀ x ∈ l, 1 ≤ x.size ∧ x.size ≤ 1000) (hz : l.length ≤ 1000) : ∀ (m : Nat) (n : Int), 0 ≤ n → (l.length : Int) - n ≤ m → ∃ p, Ends (fun k => fF.l0 k s a l n) p ∧ (p.2.2 = true → a < p.2.1 ∧ p.2.1 ≤ s.size)
 | 0, n, hn, hm => ⟨_, Ends.succ (g' := fun _ => some (0, 0, false)) (.val _) (fun k => by rw [fF.l0, if_neg (by omega)]), by simp⟩
 | m + 1, n, hn, hm => by
  by_cases h1 : n < (l.length : Int)
  ·obtain ⟨p, hp, hq⟩ := Rk s hs a h0 ha l hl hz m (n + 1) (by omega) (by omega)
   have hx : 1 ≤ (fG ByteArray.empty l n).size ∧ (fG ByteArray.empty l n).size ≤ 1000 := by
    unfold fG
    rw [List.getD_eq_getElem?_getD, List.getElem?_eq_getElem (by omega)]
    exact hl _ (List.getElem_mem _)
   have hw : wrap64 (n + 1) = n + 1 := jR (by omega) (by omega)
   have hw' : wrap64 (a + ((fG ByteArray.empty l n).size : Int)) = a + ((fG ByteArray.empty l n).size : Int) := jR (by omega) (by omega)
   by_cases h2 : a + ((fG ByteArray.empty l n).size : Int) ≤ s.size
   ·by_cases h3 : (s.extract a.toNat (a + ((fG ByteArray.empty l n).size : Int)).toNat).toList = (fG ByteArray.empty l n).toList
    ·exact ⟨_, Ends.succ (g' := fun _ => some (2, a + ((fG ByteArray.empty l n).size : Int), true)) (.val _) (fun k => by rw [fF.l0, if_pos h1, if_pos hn, hw', if_pos h2, if_pos h0, if_pos (by omega), if_pos h3]), fun _ => ⟨by show a < a + _; omega, h2⟩⟩
    ·exact ⟨p, Ends.succ hp (fun k => by rw [fF.l0, if_pos h1, if_pos hn, hw', if_pos h2, if_pos h0, if_pos (by omega), if_neg h3, hw]), hq⟩
   ·exact ⟨p, Ends.succ hp (fun k => by rw [fF.l0, if_pos h1, if_pos hn, hw', if_neg h2, hw]), hq⟩
  ·exact ⟨_, Ends.succ (g' := fun _ => some (0, 0, false)) (.val _) (fun k => by rw [fF.l0, if_neg h1]), by simp⟩
noncomputable def BK : List ByteArray := (oP.f).getD []
theorem aho : oP.f = some BK := rfl
theorem Zl : ∀ x ∈ BK, 1 ≤ x.size ∧ x.size ≤ 1000 := by
 have h : (BK.all fun x => Nat.ble 1 x.size && Nat.ble x.size 1000) = true := by kernel_rfl
 intro x hx
 have := List.all_eq_true.1 h x hx
 rw [Bool.and_eq_true] at this
 exact ⟨Nat.le_of_ble_eq_true this.1, Nat.le_of_ble_eq_true this.2⟩
theorem Zm : BK.length ≤ 1000 := by
 have : Nat.ble BK.length 100 = true := by kernel_rfl
 have := Nat.le_of_ble_eq_true this
 omega
theorem Zn (s : ByteArray) (hs : s.size ≤ 1000) (a : Int) (h0 : 0 ≤ a) (h1 : a < s.size) : ∃ p, Ends (fun k => fF.f k s a) p ∧ (p.2.2 = true → a < p.2.1 ∧ p.2.1 ≤ s.size) := by
 obtain ⟨b, hb⟩ := K8 (bt s a)
 obtain ⟨c, hc⟩ := Rj (bt s a)
 obtain ⟨r, hr, h2, h3, h4⟩ := K9 s hs s.size a h0 (by omega) (by omega)
 have hr' : Ends (fun k => dJ.f k s a) r := hr
 have hw : wrap64 (a + 1) = a + 1 := jR (by omega) (by omega)
 unfold fF.f
 simp only [if_pos h0, if_pos h1, hb, hc, Option.bind_some, hw, aho]
 cases b with
 | true => exact ⟨(0, r, true), Ends.pos rfl (hr'.bind (.val _)), fun _ => ⟨h4 h1 (.inl hb), h3⟩⟩
 | false =>
  cases c with
  | true => exact ⟨(1, r, true), Ends.neg (by decide) (Ends.pos rfl (hr'.bind (.val _))), fun _ => ⟨h4 h1 (.inr hc), h3⟩⟩
  | false =>
   by_cases h64 : bt s a = 64
   ·by_cases h5 : a + 1 < (s.size : Int)
    ·obtain ⟨d, hd⟩ := K8 (bt s (a + 1))
     obtain ⟨r, hr, h2, h3, h4⟩ := K9 s hs s.size (a + 1) (by omega) (by omega) (by omega)
     have hr' : Ends (fun k => dJ.f k s (a + 1)) r := hr
     cases d with
     | true =>
      exact ⟨(3, r, true), Ends.neg (by decide) (Ends.neg (by decide) (Ends.pos h64 (Ends.pos h5 (Ends.pos (by omega) (Ends.bind (g := fun _ => fC.f (bt s (a + 1))) (by rw [hd]; exact .val _) (Ends.pos rfl (hr'.bind (.val _)))))))), fun _ => ⟨by show a < r; omega, h3⟩⟩
     | false =>
      exact ⟨(0, 0, false), Ends.neg (by decide) (Ends.neg (by decide) (Ends.pos h64 (Ends.pos h5 (Ends.pos (by omega) (Ends.bind (g := fun _ => fC.f (bt s (a + 1))) (by rw [hd]; exact .val _) (Ends.neg (by decide) (.val _))))))), by simp⟩
    ·exact ⟨(0, 0, false), Ends.neg (by decide) (Ends.neg (by decide) (Ends.pos h64 (Ends.neg h5 (.val _)))), by simp⟩
   ·obtain ⟨p, hp, hq⟩ := Rk s hs a h0 (by omega) BK Zl Zm BK.length 0 (by omega) (by omega)
    exact ⟨p, Ends.neg (by decide) (Ends.neg (by decide) (Ends.neg h64 hp)), hq⟩
theorem Zo (s : ByteArray) (hs : s.size ≤ 1000) : ∀ (m : Nat) (l : List iA) (n : Int), 0 ≤ n → (l.length : Int) ≤ n → n ≤ s.size → (s.size : Int) - n ≤ m → bf (fun k => fu.l0 k s l n) := by
 intro m
 induction m using Nat.strongRecOn with
 | _ m ih =>
  intro l n h0 hl h1 hm
  refine bf.succ ?_ (fun k => by rw [fu.l0])
  refine bf.ite (fun hn => ?_) fun _ => .val _
  have hj : ∀ b, bf (fun k => fu.j1 k s l n b) := by
   intro b
   refine bf.succ ?_ (fun k => by rw [fu.j1])
   refine bf.ite (fun _ => ?_) fun _ => ?_
   ·rw [jR (by omega) (by omega)]
    exact ih ((s.size : Int) - (n + 1)).toNat (by omega) l (n + 1) (by omega) (by omega) (by omega) (by omega)
   ·obtain ⟨p, hp, hq⟩ := Zn s hs n h0 hn
    refine bf.bind ⟨p, hp⟩ fun q hq' => ?_
    obtain rfl := hp.uniq hq'
    refine bf.ite (fun ht => ?_) fun _ => .val _
    obtain ⟨h2, h3⟩ := hq ht
    refine bf.pos h0 (bf.pos (by omega) (bf.pos h3 (bf.pos (by omega) ?_)))
    exact ih ((s.size : Int) - p.2.1).toNat (by omega) _ p.2.1 (by omega) (by simp only [List.length_append, List.length_cons, List.length_nil]; omega) h3 (by omega)
  exact bf.pos h0 (bf.ite (fun _ => hj _) fun _ => hj _)
theorem Zp (s : ByteArray) (hs : s.size ≤ 1000) : bf (fun k => mJ.f k s) := by
 unfold mJ.f oQ.f fu.f
 refine bf.bind (bf.bind (Zo s hs s.size [] 0 (by omega) (by simp) (by omega) (by omega)) fun a _ => bf.ite (fun _ => bf.ite (fun h1 => bf.pos (by omega) (bf.ite (fun _ => .val _) fun _ => .val _)) fun _ => .val _) fun _ => .val _) fun _ _ => .val _
noncomputable def Gn : List ByteArray := (BL.f).getD []
theorem ahp : BL.f = some Gn := rfl
theorem Zq : Gn.length ≤ 1000 := by
 have : Nat.ble Gn.length 100 = true := by kernel_rfl
 have := Nat.le_of_ble_eq_true this
 omega
theorem Rl (s : ByteArray) (l : List ByteArray) (hl : l.length ≤ 1000) : ∀ (m : Nat) (n : Int), 0 ≤ n → (l.length : Int) - n ≤ m → bf (fun k => gM.l0 k s l n)
 | 0, n, h0, h1 => bf.succ (g' := fun _ => some false) (.val _) (fun k => by rw [gM.l0, if_neg (by omega)])
 | m + 1, n, h0, h1 => by
  refine bf.succ ?_ (fun k => by rw [gM.l0])
  refine bf.ite (fun hn => bf.pos h0 (bf.ite (fun _ => .val _) fun _ => ?_)) fun _ => .val _
  rw [jR (by omega) (by omega)]
  exact Rl s l hl m (n + 1) (by omega) (by omega)
theorem Zr (s : ByteArray) : bf (fun k => gM.f k s) := by
 unfold gM.f
 simp only [ahp, Option.bind_some]
 exact Rl s Gn Zq Gn.length 0 (by omega) (by omega)
theorem Zt (s : ByteArray) : bf (fun k => mK.f k s) := by
 unfold mK.f gI.f
 refine bf.ite (fun _ => .val _) fun h => ?_
 exact bf.bind (Zp s (by omega)) fun _ _ => bf.ite (fun _ => bf.bind (Zr s) fun _ _ => bf.ite (fun _ => .val _) fun _ => bf.bind (Ri s 31 1 (by omega) (by omega) (by omega)) fun _ _ => .val _) fun _ => .val _
end Go.Proofs.YtgliaoanlhbepaaGreatDoor.Q
end
section
namespace Go.Proofs.YtgliaoanlhbepaaGreatDoor.Q
open Go.RowKit Go.Proofs.bT.eG Go.Proofs.bT.iM Go.Proofs.bT.jd
set_option linter.unusedVariables false
set_option linter.unusedSimpArgs false
def BM (b n : Int) (s : ByteArray) (o e : Bool) : Prop :=
 0 ≤ b ∧ b ≤ 4 ∧ s.toList = [] ∧ (b = 2 ∨ b = 3 → 1 ≤ n ∧ n ≤ 31) ∧ (¬ (b = 2 ∨ b = 3) → n = 0) ∧ (b = 0 → o = false) ∧ (b = 4 → o = false ∧ e = false)
theorem Zu (b n : Int) (s : ByteArray) (o e : Bool) (h5 : b ≠ 5) : ∃ v : Bool, cB.f 1 b n s o e = some v ∧ dN.f 1 b n s o e = some v ∧ (v = true → BM b n s o e) := by
 unfold BM
 by_cases h0 : b < 0
 ·exact ⟨false, by simp [cB.f, cB.j0, h0], by
   have h2 : b ≠ 2 := by omega
   have h3 : b ≠ 3 := by omega
   have h4 : b ≠ 4 := by omega
   have h1 : b ≠ 1 := by omega
   have h0 : b ≠ 0 := by omega
   simp [dN.f, dN.j0, h0, h1, h2, h3, h4, h5], by simp⟩
 by_cases h6 : b > 5
 ·exact ⟨false, by simp [cB.f, cB.j0, h0, h6], by
   have h2 : b ≠ 2 := by omega
   have h3 : b ≠ 3 := by omega
   have h4 : b ≠ 4 := by omega
   have h1 : b ≠ 1 := by omega
   have h0 : b ≠ 0 := by omega
   simp [dN.f, dN.j0, h0, h1, h2, h3, h4, h5], by simp⟩
 have hb : b = 0 ∨ b = 1 ∨ b = 2 ∨ b = 3 ∨ b = 4 := by omega
 by_cases hs : s.toList = []
 ·rcases hb with rfl | rfl | rfl | rfl | rfl
  ·by_cases hn : n = 0
   ·subst hn
    cases o
    ·exact ⟨true, by cases e <;> simp [cB.f, cB.j0, iX.f, hs], by simp [dN.f, dN.j0, hs], by simp [hs]⟩
    ·exact ⟨false, by simp [cB.f, cB.j0], by simp [dN.f, dN.j0, hs], by simp⟩
   ·exact ⟨false, by cases o <;> cases e <;> simp [cB.f, cB.j0, iX.f, hn], by simp [dN.f, dN.j0, hn], by simp⟩
  ·by_cases hn : n = 0
   ·subst hn
    exact ⟨true, by cases o <;> cases e <;> simp [cB.f, cB.j0, iX.f, hs], by simp [dN.f, dN.j0, hs], by simp [hs]⟩
   ·exact ⟨false, by cases o <;> cases e <;> simp [cB.f, cB.j0, iX.f, hn], by simp [dN.f, dN.j0, hn], by simp⟩
  ·by_cases h1 : n < 1
   ·have hn : ¬ 1 ≤ n := by omega
    exact ⟨false, by cases o <;> cases e <;> simp [cB.f, cB.j0, iX.f, kH.f, gK.f, h1], by simp [dN.f, dN.j0, kV.f, hn], by simp⟩
   ·by_cases h2 : n > 31
    ·have hn : 1 ≤ n := by omega
     have hm : ¬ n ≤ 31 := by omega
     exact ⟨false, by cases o <;> cases e <;> simp [cB.f, cB.j0, iX.f, kH.f, gK.f, h1, h2], by simp [dN.f, dN.j0, kV.f, hn, hm], by simp⟩
    ·have hn : 1 ≤ n := by omega
     have hm : n ≤ 31 := by omega
     exact ⟨true, by cases o <;> cases e <;> simp [cB.f, cB.j0, iX.f, kH.f, gK.f, h1, h2, hs], by simp [dN.f, dN.j0, kV.f, hn, hm, hs], by simp [hs, hn, hm]⟩
  ·by_cases h1 : n < 1
   ·have hn : ¬ 1 ≤ n := by omega
    exact ⟨false, by cases o <;> cases e <;> simp [cB.f, cB.j0, iX.f, kH.f, gK.f, h1], by simp [dN.f, dN.j0, kV.f, hn], by simp⟩
   ·by_cases h2 : n > 31
    ·have hn : 1 ≤ n := by omega
     have hm : ¬ n ≤ 31 := by omega
     exact ⟨false, by cases o <;> cases e <;> simp [cB.f, cB.j0, iX.f, kH.f, gK.f, h1, h2], by simp [dN.f, dN.j0, kV.f, hn, hm], by simp⟩
    ·have hn : 1 ≤ n := by omega
     have hm : n ≤ 31 := by omega
     exact ⟨true, by cases o <;> cases e <;> simp [cB.f, cB.j0, iX.f, kH.f, gK.f, h1, h2, hs], by simp [dN.f, dN.j0, kV.f, hn, hm, hs], by simp [hs, hn, hm]⟩
  ·by_cases hn : n = 0
   ·subst hn
    cases o <;> cases e
    ·exact ⟨true, by simp [cB.f, cB.j0, iX.f, hs], by simp [dN.f, dN.j0, hs], by simp [hs]⟩
    all_goals exact ⟨false, by simp [cB.f, cB.j0, iX.f, hs], by simp [dN.f, dN.j0, hs], by simp⟩
   ·exact ⟨false, by cases o <;> cases e <;> simp [cB.f, cB.j0, iX.f, hn], by simp [dN.f, dN.j0, hn], by simp⟩
 ·refine ⟨false, ?_, ?_, by simp⟩
  ·rcases hb with rfl | rfl | rfl | rfl | rfl <;> by_cases hn : n = 0 <;> by_cases h1 : n < 1 <;> by_cases h2 : n > 31 <;> cases o <;> cases e <;> simp [cB.f, cB.j0, iX.f, kH.f, gK.f, hs, hn, h1, h2]
  ·rcases hb with rfl | rfl | rfl | rfl | rfl <;> by_cases hn : n = 0 <;> by_cases h1 : 1 ≤ n <;> by_cases h2 : n ≤ 31 <;> simp [dN.f, dN.j0, kV.f, hs, hn, h1, h2]
theorem Rm (b n : Int) (s : ByteArray) (o e : Bool) (h5 : b ≠ 5) : ∃ v : Bool, Ends (fun k => jE.f k b n s o e) (if v = true then 0 else 1) ∧ Ends (fun k => l5.f k b n s o e) (if v = true then 0 else 1) ∧ (v = true → BM b n s o e) := by
 obtain ⟨v, h1, h2, h3⟩ := Zu b n s o e h5
 refine ⟨v, ?_, ?_, h3⟩
 ·unfold jE.f
  refine (Ends.of (fun k => cB.mono _ _ _ _ _ k) h1).bind ?_
  cases v
  ·exact .neg (by decide) (.val _)
  ·exact .pos rfl (.val _)
 ·unfold l5.f
  refine (Ends.of (fun k => dN.mono _ _ _ _ _ k) h2).bind ?_
  cases v
  ·exact .neg (by decide) (.val _)
  ·exact .pos rfl (.val _)
theorem Rn (n : Int) (s : ByteArray) (o e : Bool) : bf (fun k => jE.f k 5 n s o e) := by
 unfold jE.f cB.f
 have hj : ∀ b, bf (fun k => cB.j0 k b 5 n s o e) := by
  intro b
  refine bf.succ ?_ (fun k => by rw [cB.j0])
  have e1 : iX.f 5 = some false := rfl
  simp only [e1, Option.bind_some]
  exact bf.ite (fun _ => .val _) fun _ => bf.ite (fun h => by simp at h) fun _ => bf.ite (fun _ => bf.pos trivial (bf.bind (Zi s) fun _ _ => bf.ite (fun _ => .val _) fun _ => .val _)) fun _ => .val _
 refine bf.bind ?_ fun _ _ => bf.ite (fun _ => .val _) fun _ => .val _
 exact bf.ite (fun _ => hj _) fun _ => bf.ite (fun _ => hj _) fun _ => bf.ite (fun _ => bf.ite (fun _ => hj _) fun _ => bf.ite (fun _ => hj _) fun _ => bf.ite (fun _ => hj _) fun _ => hj _) fun _ => bf.ite (fun _ => hj _) fun _ => hj _
theorem Ro (n : Int) (s : ByteArray) (o e : Bool) : bf (fun k => l5.f k 5 n s o e) := by
 unfold l5.f dN.f
 refine bf.bind ?_ fun _ _ => bf.ite (fun _ => .val _) fun _ => .val _
 refine bf.ite (fun h => by simp at h) fun _ => ?_
 refine bf.succ ?_ (fun k => by rw [dN.j0])
 exact bf.ite (fun h => by simp at h) fun _ => bf.pos rfl (bf.ite (fun _ => bf.bind (Zt s) fun _ _ => .val _) fun _ => .val _)
end Go.Proofs.YtgliaoanlhbepaaGreatDoor.Q
end
section
namespace Go.Proofs.YtgliaoanlhbepaaGreatDoor.Q
open Go.RowKit Go.Proofs.bT.eG Go.Proofs.bT.iM Go.Proofs.bT.jd
set_option linter.unusedVariables false
set_option linter.unusedSimpArgs false
def yP (g : Bool) (n : Nat) : Int := if g = true then -(2 ^ n : Int) else 0
def yQ (g : Bool) (n : Nat) : Int := if g = true then 2 ^ n - 1 else 2 ^ (n + 1) - 1
theorem Zv : ∀ (g : Bool) (n : Fin 31), yR.f g ((n.val : Int) + 1) = some (yP g n.val) ∧ yS.f g ((n.val : Int) + 1) = some (yQ g n.val) ∧ pY.f 40 g ((n.val : Int) + 1) = some (yP g n.val, yQ g n.val) ∧ -2147483648 ≤ yP g n.val ∧ yQ g n.val ≤ 2147483647 ∧ yP g n.val ≤ 0 ∧ 0 ≤ yQ g n.val := by decide +kernel
theorem Zw (g : Bool) (n x : Int) (h0 : 1 ≤ n) (h1 : n ≤ 31) : ∃ v : Bool, wN.f g n x = some (v, 0) ∧ Ends (fun k => uo.f k g n x) v ∧ (v = true → -2147483648 ≤ x ∧ x ≤ 2147483647) ∧ (x = 0 → v = true) := by
 obtain ⟨m, rfl⟩ : ∃ m : Fin 31, n = (m.val : Int) + 1 := ⟨⟨(n - 1).toNat, by omega⟩, by show n = ((n - 1).toNat : Int) + 1; omega⟩
 obtain ⟨h2, h3, h4, h5, h6, h7, h8⟩ := Zv g m
 have hE := Ends.of (fun k => pY.mono _ _ k) h4
 refine ⟨decide (yP g m.val ≤ x ∧ x ≤ yQ g m.val), ?_, ?_, ?_, ?_⟩
 ·unfold wN.f gK.f yT.f
  rw [if_neg (by omega), if_neg (by omega), h2, h3]
  by_cases ha : yP g m.val ≤ x
  ·by_cases hb : x ≤ yQ g m.val <;> simp [ha, hb]
  ·simp [ha]
 ·unfold uo.f kV.f
  refine hE.bind ?_
  by_cases ha : yP g m.val ≤ x
  ·by_cases hb : x ≤ yQ g m.val
   ·simp only [ge_iff_le, ha, hb, if_true, Option.bind_some, and_self, decide_true]; exact .val _
   ·simp only [ge_iff_le, ha, hb, if_true, Option.bind_some, and_false, decide_false]; exact .val _
  ·simp only [ge_iff_le, ha, if_false, Option.bind_some, false_and, decide_false]; exact .val _
 ·intro h
  have := of_decide_eq_true h
  omega
 ·rintro rfl
  exact decide_eq_true ⟨h7, h8⟩
theorem BN (a b : Int) (c : ByteArray) (d e : Bool) : gu a a b b c c d d e e = true := by simp [gu]
def oU (v : eP) : Prop :=
 BM v.f0.f0 v.f0.f1 v.f0.f2 v.f0.f3 v.f0.f4 ∧ v.f0.f4 = false ∧ (v.f0.f0 = 4 → BM v.f4.f0 v.f4.f1 v.f4.f2 v.f4.f3 v.f4.f4 ∧ (v.f4.f0 = 2 ∨ v.f4.f0 = 3) ∧ v.f4.f3 = false ∧ v.f4.f4 = false) ∧ -2147483648 ≤ v.f1 ∧ v.f1 ≤ 2147483647
noncomputable def wO (k : Nat) (v : eP) : Option Int := iY.f k (v.f0.f0) (v.f0.f1) (v.f0.f2) (v.f0.f3) (v.f0.f4) (v.f0.f0) (v.f0.f1) (v.f0.f2) (v.f0.f3) (v.f0.f4) (v.f1) (v.f2) (v.f3) (v.f4.f0) (v.f4.f1) (v.f4.f2) (v.f4.f3) (v.f4.f4)
noncomputable def wP (k : Nat) (v : eP) : Option Int := dI.f k (v.f0.f0) (v.f0.f1) (v.f0.f2) (v.f0.f3) (v.f0.f4) (v.f0.f0) (v.f0.f1) (v.f0.f2) (v.f0.f3) (v.f0.f4) (v.f1) (v.f2) (v.f3) (v.f4.f0) (v.f4.f1) (v.f4.f2) (v.f4.f3) (v.f4.f4)
theorem Gp (a1 a2 a3 a4 a5 b1 b2 b3 b4 b5 b6 b7 b8 b9 b10 b11 b12 b13) : Ends (fun k => iY.j0 k true a1 a2 a3 a4 a5 b1 b2 b3 b4 b5 b6 b7 b8 b9 b10 b11 b12 b13) 1 :=
 Ends.succ (g' := fun _ => some 1) (.val _) (fun k => by rw [iY.j0, if_pos rfl])
theorem Gq (a1 a2 a3 a4 a5 b1 b2 b3 b4 b5 b6 b7 b8 b9 b10 b11 b12 b13) : Ends (fun k => dI.j0 k true a1 a2 a3 a4 a5 b1 b2 b3 b4 b5 b6 b7 b8 b9 b10 b11 b12 b13) 1 :=
 Ends.succ (g' := fun _ => some 1) (.val _) (fun k => by rw [dI.j0, if_pos rfl])
theorem Rp (a1 a2 a3 a4 a5 b1 b2 b3 b4 b5 b6 b7 b8 b9 b10 b11 b12 b13) : Ends (fun k => dI.j1 k true a1 a2 a3 a4 a5 b1 b2 b3 b4 b5 b6 b7 b8 b9 b10 b11 b12 b13) 6 :=
 Ends.succ (g' := fun _ => some 6) (.val _) (fun k => by rw [dI.j1, if_pos rfl])
theorem K_ (a1 a2 a3 a4 a5 b1 b2 b3 b4 b5 b6 b7 b8 b9 b10 b11 b12 b13) : Ends (fun k => fP.j0 k true a1 a2 a3 a4 a5 b1 b2 b3 b4 b5 b6 b7 b8 b9 b10 b11 b12 b13) false :=
 Ends.succ (g' := fun _ => some false) (.val _) (fun k => by rw [fP.j0, if_pos rfl])
theorem Gr (x : Int) (a1 a2 a3 a4 a5 b1 b2 b3 b4 b5 b7 b8 b9 b10 b11 b12 b13) : Ends (fun k => dI.j2 k true a1 a2 a3 a4 a5 b1 b2 b3 b4 b5 x b7 b8 b9 b10 b11 b12 b13) (if x = 0 then 0 else 6) :=
 Ends.succ (g' := fun _ => some (if x = 0 then 0 else 6)) (.val _) (fun k => by rw [dI.j2, if_pos rfl]; split <;> rfl)
theorem Zx (v : eP) (hT : BM v.f0.f0 v.f0.f1 v.f0.f2 v.f0.f3 v.f0.f4) (he : v.f0.f4 = false) (hn : v.f2 = true → v.f0.f3 = true ∧ v.f1 = 0) : ∃ b : Bool, Ends (fun k => fP.j0 k false v.f0.f0 v.f0.f1 v.f0.f2 v.f0.f3 v.f0.f4 v.f0.f0 v.f0.f1 v.f0.f2 v.f0.f3 v.f0.f4 v.f1 v.f2 v.f3 v.f4.f0 v.f4.f1 v.f4.f2 v.f4.f3 v.f4.f4) b ∧ Ends (fun k => dI.j1 k false v.f0.f0 v.f0.f1 v.f0.f2 v.f0.f3 v.f0.f4 v.f0.f0 v.f0.f1 v.f0.f2 v.f0.f3 v.f0.f4 v.f1 v.f2 v.f3 v.f4.f0 v.f4.f1 v.f4.f2 v.f4.f3 v.f4.f4) (if b = true then 0 else 6) ∧ (b = true → oU v) := by
 obtain ⟨⟨b, n, s, o, e⟩, x, u, er, ⟨fb, fn, fs, fo, fe⟩⟩ := v
 simp only at hT he hn ⊢
 subst he
 have Rq := hT
 obtain ⟨t0, t1, t2, t3, t4, t5, t6⟩ := hT
 by_cases h4 : b = 4
 ·subst h4
  by_cases hx : x = 0
  ·by_cases h5 : fb = 5
   ·subst h5
    obtain ⟨c, hc⟩ := Rn fn fs fo fe
    obtain ⟨d, hd⟩ := Ro fn fs fo fe
    refine ⟨false, ?_, ?_, by simp⟩
    ·refine Ends.succ ?_ (fun k => by rw [fP.j0])
     refine .neg (by decide) (.pos rfl (.pos hx (hc.bind ?_)))
     by_cases h : c = 0
     ·refine .pos h ?_
      unfold uq.f
      cases fo <;> cases fe <;> exact .val _
     ·exact .neg h (.val _)
    ·refine Ends.succ ?_ (fun k => by rw [dI.j1])
     refine .neg (by decide) (.pos rfl (.pos hx (hd.bind ?_)))
     by_cases h : d = 0
     ·refine .pos h ?_
      exact .val _
     ·exact .neg h (.val _)
   ·obtain ⟨w, hw, hw', hg⟩ := Rm fb fn fs fo fe h5
    cases w with
    | false =>
     refine ⟨false, ?_, ?_, by simp⟩
     ·refine Ends.succ ?_ (fun k => by rw [fP.j0])
      exact .neg (by decide) (.pos rfl (.pos hx (hw.bind (.neg (by decide) (.val _)))))
     ·refine Ends.succ ?_ (fun k => by rw [dI.j1])
      exact .neg (by decide) (.pos rfl (.pos hx (hw'.bind (.neg (by decide) (.val _)))))
    | true =>
     have hg := hg rfl
     refine ⟨decide ((fb = 2 ∨ fb = 3) ∧ fo = false ∧ fe = false), ?_, ?_, ?_⟩
     ·refine Ends.succ ?_ (fun k => by rw [fP.j0])
      refine .neg (by decide) (.pos rfl (.pos hx (hw.bind (.pos rfl ?_))))
      unfold uq.f
      by_cases h2 : fb = 2
      ·subst h2; cases fo <;> cases fe <;> exact .val _
      ·by_cases h3 : fb = 3
       ·subst h3; cases fo <;> cases fe <;> exact .val _
       ·have e5 : (fb == 5) = false := beq_eq_false_iff_ne.mpr h5
        simp only [h2, h3, e5, if_false, false_or, false_and, decide_false]
        cases fo <;> cases fe <;> exact .val _
     ·refine Ends.succ ?_ (fun k => by rw [dI.j1])
      refine .neg (by decide) (.pos rfl (.pos hx (hw'.bind (.pos rfl ?_))))
      unfold wQ.f
      by_cases h2 : fb = 2
      ·subst h2; cases fo <;> cases fe <;> exact .val _
      ·by_cases h3 : fb = 3
       ·subst h3; cases fo <;> cases fe <;> exact .val _
       ·simp only [h2, h3, if_false, false_or, false_and, decide_false]
        exact .val _
     ·intro h
      have := of_decide_eq_true h
      exact ⟨Rq, rfl, fun _ => ⟨hg, this⟩, by simp only; omega, by simp only; omega⟩
  ·refine ⟨false, ?_, ?_, by simp⟩
   ·refine Ends.succ ?_ (fun k => by rw [fP.j0])
    exact .neg (by decide) (.pos rfl (.neg hx (.val _)))
   ·refine Ends.succ ?_ (fun k => by rw [dI.j1])
    exact .neg (by decide) (.pos rfl (.neg hx (.val _)))
 ·by_cases hz : gu fb 0 fn 0 fs (⟨#[]⟩ : ByteArray) fo false fe false = true
  ·have hV : -2147483648 ≤ x → x ≤ 2147483647 → oU ⟨⟨b, n, s, o, false⟩, x, u, er, ⟨fb, fn, fs, fo, fe⟩⟩ := fun h0 h1 => ⟨Rq, rfl, fun h => absurd h h4, h0, h1⟩
   have prog : ∀ c : Bool, Ends (fun _ : Nat => (if b = 0 then (some (x == 0)) else (if b = 1 then (if x = 0 then (some true) else (some (x == 1))) else ((wN.f (b == 3) n x).bind fun Dy => (some Dy.1))))) c → Ends (fun k => fP.j0 k false b n s o false b n s o false x u er fb fn fs fo fe) c := by
    intro c h
    refine Ends.succ ?_ (fun k => by rw [fP.j0])
    exact .neg (by decide) (.neg h4 (.pos hz h))
   have ref : ∀ c : Int, Ends (fun k => dI.j2 k (u || b == 0) b n s o false b n s o false x u er fb fn fs fo fe) c → Ends (fun k => dI.j1 k false b n s o false b n s o false x u er fb fn fs fo fe) c := by
    intro c h
    refine Ends.succ ?_ (fun k => by rw [dI.j1])
    refine .neg (by decide) (.neg h4 (.pos hz ?_))
    cases u
    ·exact .neg (by decide) h
    ·exact .pos rfl h
   by_cases h0 : b = 0
   ·subst h0
    refine ⟨x == 0, prog _ (.val _), ref _ ?_, fun h => ?_⟩
    ·have e1 : (u || (0 : Int) == 0) = true := by cases u <;> rfl
     rw [e1]
     have := Gr x 0 n s o false 0 n s o false u er fb fn fs fo fe
     by_cases hx : x = 0
     ·subst hx; exact this
     ·rw [if_neg hx] at this
      have e2 : (x == 0) = false := beq_eq_false_iff_ne.mpr hx
      rw [e2]; exact this
    ·have := eq_of_beq h; exact hV (by omega) (by omega)
   ·have e0 : (b == 0) = false := beq_eq_false_iff_ne.mpr h0
    by_cases h1 : b = 1
    ·subst h1
     refine ⟨x == 0 || x == 1, prog _ ?_, ref _ ?_, fun h => ?_⟩
     ·by_cases hx : x = 0
      ·subst hx; exact .val _
      ·have e2 : (x == 0) = false := beq_eq_false_iff_ne.mpr hx
       simp only [h0, hx, if_false, if_true, e2, Bool.false_or]; exact .val _
     ·cases u
      ·refine Ends.succ ?_ (fun k => by rw [dI.j2])
       refine .neg (by decide) (.pos rfl ?_)
       by_cases hx : x = 0
       ·subst hx; exact .val _
       ·by_cases hy : x = 1
        ·subst hy; exact .val _
        ·have e2 : (x == 0) = false := beq_eq_false_iff_ne.mpr hx
         have e3 : (x == 1) = false := beq_eq_false_iff_ne.mpr hy
         simp only [hx, hy, if_false, e2, e3, Bool.false_or]; exact .val _
      ·obtain ⟨_, rfl⟩ := hn rfl
       exact Gr 0 1 n s o false 1 n s o false true er fb fn fs fo fe
     ·rw [Bool.or_eq_true] at h
      rcases h with h | h
      ·have := eq_of_beq h; exact hV (by omega) (by omega)
      ·have := eq_of_beq h; exact hV (by omega) (by omega)
    ·have hb : b = 2 ∨ b = 3 := by omega
     obtain ⟨n0, n1⟩ := t3 hb
     obtain ⟨w, hw, hw', hw2, hw3⟩ := Zw (b == 3) n x n0 n1
     refine ⟨w, prog _ ?_, ref _ ?_, fun h => hV (hw2 h).1 (hw2 h).2⟩
     ·simp only [h0, h1, if_false, hw, Option.bind_some]; exact .val _
     ·cases u
      ·refine Ends.succ ?_ (fun k => by rw [dI.j2])
       rw [e0]
       refine .neg (by decide) (.neg h1 ?_)
       unfold p9.f
       refine Ends.bind (.val _) (hw'.bind ?_)
       cases w
       ·exact .neg (by decide) (.val _)
       ·exact .pos rfl (.val _)
      ·obtain ⟨_, rfl⟩ := hn rfl
       rw [hw3 rfl]
       exact Gr 0 b n s o false b n s o false true er fb fn fs fo fe
  ·refine ⟨false, ?_, ?_, by simp⟩
   ·refine Ends.succ ?_ (fun k => by rw [fP.j0])
    exact .neg (by decide) (.neg h4 (.neg hz (.val _)))
   ·refine Ends.succ ?_ (fun k => by rw [dI.j1])
    exact .neg (by decide) (.neg h4 (.neg hz (.val _)))
end Go.Proofs.YtgliaoanlhbepaaGreatDoor.Q
end
section
namespace Go.Proofs.YtgliaoanlhbepaaGreatDoor.Q
open Go.RowKit Go.Proofs.bT.eG Go.Proofs.bT.iM Go.Proofs.bT.jd
set_option linter.unusedVariables false
set_option linter.unusedSimpArgs false
theorem Rs {c : Bool} (h : (if c = true then (0 : Int) else 6) = 0) : c = true := by
 cases c
 ·simp at h
 ·rfl
theorem Zy (v : eP) : ∃ c d : Int, Ends (fun k => wO k v) c ∧ Ends (fun k => wP k v) d ∧ (c = 0 ↔ d = 0) ∧ (c = 0 → oU v) := by
 have hcore := Zx v
 obtain ⟨⟨b, n, s, o, e⟩, x, u, er, ⟨fb, fn, fs, fo, fe⟩⟩ := v
 simp only at hcore
 by_cases h5 : b = 5
 ·subst h5
  obtain ⟨c, hc⟩ := Rn n s o e
  obtain ⟨d, hd⟩ := Ro n s o e
  refine ⟨1, 1, ?_, ?_, Iff.rfl, by simp⟩
  ·unfold wO iY.f
   refine hc.bind ?_
   by_cases h : c = 0
   ·exact .pos h (.pos rfl (Gp ..))
   ·exact .neg h (Gp ..)
  ·unfold wP dI.f
   refine hd.bind ?_
   by_cases h : d = 0
   ·exact .pos h (.pos rfl (Gq ..))
   ·exact .neg h (Gq ..)
 ·obtain ⟨w, hw, hw', hg⟩ := Rm b n s o e h5
  cases w with
  | false =>
   refine ⟨1, 1, ?_, ?_, Iff.rfl, by simp⟩
   ·unfold wO iY.f
    exact hw.bind (.neg (by decide) (Gp ..))
   ·unfold wP dI.f
    exact hw'.bind (.neg (by decide) (Gq ..))
  | true =>
   have hg := hg rfl
   cases e with
   | true =>
    refine ⟨1, 1, ?_, ?_, Iff.rfl, by simp⟩
    ·unfold wO iY.f
     exact hw.bind (.pos rfl (.neg h5 (Gp ..)))
    ·unfold wP dI.f
     exact hw'.bind (.pos rfl (.neg h5 (Gq ..)))
   | false =>
    have hp : ∀ c : Bool, Ends (fun k => fP.f k b n s o false b n s o false x u er fb fn fs fo fe) c → Ends (fun k => wO k ⟨⟨b, n, s, o, false⟩, x, u, er, ⟨fb, fn, fs, fo, fe⟩⟩) (if c = true then 0 else 6) := by
     intro c hc
     unfold wO iY.f
     refine hw.bind (.pos rfl (.neg h5 (Ends.succ ?_ (fun k => by rw [iY.j0]))))
     refine .neg Bool.false_ne_true (hc.bind ?_)
     cases c
     ·exact .neg (by decide) (.val _)
     ·exact .pos rfl (.val _)
    have hr : ∀ c : Int, Ends (fun k => if er.toList = [] then (if u = true then dI.j1 k (!o) b n s o false b n s o false x u er fb fn fs fo fe else dI.j1 k false b n s o false b n s o false x u er fb fn fs fo fe) else dI.j1 k true b n s o false b n s o false x u er fb fn fs fo fe) c → Ends (fun k => wP k ⟨⟨b, n, s, o, false⟩, x, u, er, ⟨fb, fn, fs, fo, fe⟩⟩) c := by
     intro c hc
     unfold wP dI.f
     refine hw'.bind (.pos rfl (.neg h5 (Ends.succ ?_ (fun k => by rw [dI.j0]))))
     exact .neg Bool.false_ne_true (.pos (BN ..) hc)
    by_cases her : er.toList = []
    ·cases u with
     | false =>
      obtain ⟨c, h1, h2, h3⟩ := hcore hg rfl (by simp)
      refine ⟨_, _, hp c ?_, hr _ (.pos her (.neg (by decide) h2)), Iff.rfl, fun h => h3 (Rs h)⟩
      unfold fP.f
      exact .pos (BN ..) (.pos her (.neg (by decide) h1))
     | true =>
      cases o with
      | false =>
       refine ⟨_, _, hp false ?_, hr 6 (.pos her (.pos rfl (Rp ..))), by decide, fun h => by simp at h⟩
       unfold fP.f
       exact .pos (BN ..) (.pos her (.pos rfl (.neg (by decide) (K_ ..))))
      | true =>
       by_cases hx : x = 0
       ·subst hx
        obtain ⟨c, h1, h2, h3⟩ := hcore hg rfl (by simp)
        refine ⟨_, _, hp c ?_, hr _ (.pos her (.pos rfl h2)), Iff.rfl, fun h => h3 (Rs h)⟩
        unfold fP.f
        exact .pos (BN ..) (.pos her (.pos rfl (.pos rfl h1)))
       ·refine ⟨_, _, hp false ?_, hr 6 (.pos her (.pos rfl ?_)), by decide, fun h => by simp at h⟩
        ·unfold fP.f
         have ex : (x != 0) = true := bne_iff_ne.mpr hx
         rw [ex]
         exact .pos (BN ..) (.pos her (.pos rfl (.pos rfl (K_ ..))))
        ·have h4 : b ≠ 4 := by
          rintro rfl
          have := (hg.2.2.2.2.2.2 rfl).1
          cases this
         refine Ends.succ ?_ (fun k => by rw [dI.j1])
         refine .neg (by decide) (.neg h4 ?_)
         by_cases hz : gu fb 0 fn 0 fs (⟨#[]⟩ : ByteArray) fo false fe false = true
         ·have := Gr x b n s true false b n s true false true er fb fn fs fo fe
          rw [if_neg hx] at this
          exact .pos hz (.pos rfl this)
         ·exact .neg hz (.val _)
    ·refine ⟨_, _, hp false ?_, hr 6 (.neg her (Rp ..)), by decide, fun h => by simp at h⟩
     unfold fP.f
     exact .pos (BN ..) (.neg her (K_ ..))
noncomputable def Gs (k : Nat) (v : eP) : Option ByteArray := BO.f k (v.f0.f0) (v.f0.f1) (v.f0.f2) (v.f0.f3) (v.f0.f4) (v.f1) (v.f2) (v.f3) (v.f4.f0) (v.f4.f1) (v.f4.f2) (v.f4.f3) (v.f4.f4)
noncomputable def Dz (k : Nat) (v : eP) : Option ByteArray := jF.f k (v.f0.f0) (v.f0.f1) (v.f0.f2) (v.f0.f3) (v.f0.f4) (v.f1) (v.f2) (v.f3) (v.f4.f0) (v.f4.f1) (v.f4.f2) (v.f4.f3) (v.f4.f4)
theorem Rt (l : List UInt8) : (⟨#[]⟩ : ByteArray) ++ ⟨l.toArray⟩ = ⟨l.toArray⟩ := by
 apply ByteArray.ext
 rw [ByteArray.data_append]
 simp
theorem Ru (x : Int) (h0 : -1000000000000000 ≤ x) (h1 : x ≤ 1000000000000000) : strconv_Itoa.f x = some ⟨(Go.Lib.itoa x).toArray⟩ := by
 unfold strconv_Itoa.f
 rw [if_pos (by omega), if_pos (by omega)]
theorem Zz (b n : Int) (s : ByteArray) (hb : b = 2 ∨ b = 3) (h0 : 1 ≤ n) (h1 : n ≤ 31) (hs : s.toList = []) : Ends (fun k => iH.f k b n s false false) (⟨((if (b == 3) = true then 105 else 117) :: Go.Lib.itoa n).toArray⟩, 0) := by
 have hl := BJ n (by omega) (by omega)
 have hv : cB.f 1 b n s false false = some true := by
  have h2 : ¬ n < 1 := by omega
  have h3 : ¬ n > 31 := by omega
  rcases hb with rfl | rfl <;> simp [cB.f, cB.j0, iX.f, kH.f, gK.f, h2, h3, hs]
 have hV : Ends (fun k => jE.f k b n s false false) 0 := by
  unfold jE.f
  exact (Ends.of (fun k => cB.mono _ _ _ _ _ k) hv).bind (.pos rfl (.val _))
 have hN : yU.f (b == 3) n = some (⟨((if (b == 3) = true then 105 else 117) :: Go.Lib.itoa n).toArray⟩, 0) := by
  unfold yU.f gK.f
  rw [if_neg (by omega), if_neg (by omega)]
  simp only [Option.bind_some, if_true, Ru n (by omega) (by omega), BI, size_bytes]
  cases (b == 3)
  ·rw [if_neg (by decide), if_pos (by omega)]; rfl
  ·rw [if_pos rfl, if_pos (by omega)]; rfl
 unfold iH.f
 refine hV.bind (.pos rfl (.neg (by decide) (Ends.succ ?_ (fun k => by rw [iH.j0]))))
 refine .neg (by decide) (Ends.succ ?_ (fun k => by rw [iH.j1]))
 refine .neg (by omega) (.neg (by omega) (.neg (by omega) (.neg (by omega) ?_)))
 unfold kH.f
 simp only [Option.bind_some, hN, Rt]
 have e0 : (⟨#[]⟩ : ByteArray).size = 0 := rfl
 exact .pos (by rw [e0, size_bytes]; simp only [List.length_cons]; omega) (.val _)
theorem ZA (b n : Int) (s : ByteArray) (hb : b = 2 ∨ b = 3) (h0 : 1 ≤ n) (h1 : n ≤ 31) : Ends (fun k => yV.f k b n s false false) ⟨((if (b == 3) = true then 105 else 117) :: Go.Lib.itoa n).toArray⟩ := by
 have hl := BJ n (by omega) (by omega)
 have hT := K7 (b == 3) n (by omega) (by omega)
 unfold yV.f jw.f p9.f
 refine .neg (by decide) (.neg (by decide) (Ends.bind (a := ⟨((if (b == 3) = true then 105 else 117) :: Go.Lib.itoa n).toArray⟩) ?_ ?_))
 ·exact .neg (by omega) (.neg (by omega) (.neg (by omega) (.neg (by omega) (Ends.bind (.val _) (hT.bind (.val _))))))
 ·refine .pos (by rw [size_bytes]; simp only [List.length_cons]; omega) ?_
  rw [Rt]; exact .val _
theorem Rv (v : eP) (hv : oU v) : ∃ t : List UInt8, t.length ≤ 30 ∧ Ends (fun k => Gs k v) ⟨t.toArray⟩ ∧ Ends (fun k => Dz k v) ⟨t.toArray⟩ := by
 obtain ⟨⟨b, n, s, o, e⟩, x, u, er, ⟨fb, fn, fs, fo, fe⟩⟩ := v
 obtain ⟨⟨t0, t1, t2, t3, t4, t5, t6⟩, he, h4, hx0, hx1⟩ := hv
 simp only at t0 t1 t2 t3 t4 t5 t6 he h4 hx0 hx1
 subst he
 have hl := BJ x (by omega) (by omega)
 have hd := Rh x (by omega) (by omega)
 have hi := Ru x (by omega) (by omega)
 unfold Gs Dz BO.f jF.f
 by_cases hb4 : b = 4
 ·subst hb4
  obtain ⟨⟨g0, g1, g2, g3, g4, g5, g6⟩, g7, rfl, rfl⟩ := h4 rfl
  obtain ⟨g8, g9⟩ := g3 g7
  have hl := BJ fn (by omega) (by omega)
  refine ⟨_, ?_, .pos rfl ((Zz fb fn fs g7 g8 g9 g2).bind (.val _)), .pos rfl ((ZA fb fn fs g7 g8 g9).bind (.val _))⟩
  simp only [List.length_cons]; omega
 ·cases u with
  | true => exact ⟨[110, 117, 108, 108], by decide, .neg hb4 (.pos rfl (.val _)), .neg hb4 (.pos rfl (.val _))⟩
  | false =>
   by_cases hb1 : b = 1
   ·subst hb1
    have hn : n = 0 := t4 (by omega)
    subst hn
    cases o with
    | false =>
     have eq1 : gu 1 1 0 0 s (⟨#[]⟩ : ByteArray) false false false false = true := by
      have e0 : (⟨#[]⟩ : ByteArray).toList = [] := by decide +kernel
      simp [gu, t2, e0]
     have ref : ∀ c, Ends (fun _ : Nat => if x = 1 then (some (⟨#[116, 114, 117, 101]⟩ : ByteArray)) else (some (⟨#[102, 97, 108, 115, 101]⟩ : ByteArray))) c → Ends (fun k => jF.j0 k true 1 0 s false false x false er fb fn fs fo fe) c := by
      intro c h
      refine Ends.succ ?_ (fun k => by rw [jF.j0])
      exact .pos rfl h
     by_cases hx : x = 1
     ·subst hx
      refine ⟨[116, 114, 117, 101], by decide, .neg hb4 (.neg Bool.false_ne_true (.pos eq1 ?_)), .neg hb4 (.neg Bool.false_ne_true (.pos rfl (ref _ (.pos rfl (.val _)))))⟩
      exact .val _
     ·refine ⟨[102, 97, 108, 115, 101], by decide, .neg hb4 (.neg Bool.false_ne_true (.pos eq1 ?_)), .neg hb4 (.neg Bool.false_ne_true (.pos rfl (ref _ (.neg hx (.val _)))))⟩
      have ex : (x == 1) = false := beq_eq_false_iff_ne.mpr hx
      rw [ex]; exact .val _
    | true =>
     have eq1 : gu 1 1 0 0 s (⟨#[]⟩ : ByteArray) true false false false ≠ true := by simp [gu]
     refine ⟨Go.Lib.itoa x, by omega, .neg hb4 (.neg Bool.false_ne_true (.neg eq1 ?_)), .neg hb4 (.neg Bool.false_ne_true (.pos rfl ?_))⟩
     ·rw [hi]; exact .val _
     ·refine Ends.succ ?_ (fun k => by rw [jF.j0])
      exact .neg Bool.false_ne_true (hd.bind (.val _))
   ·have eq1 : gu b 1 n 0 s (⟨#[]⟩ : ByteArray) o false false false ≠ true := by simp [gu, hb1]
    refine ⟨Go.Lib.itoa x, by omega, .neg hb4 (.neg Bool.false_ne_true (.neg eq1 ?_)), .neg hb4 (.neg Bool.false_ne_true (.neg hb1 ?_))⟩
    ·rw [hi]; exact .val _
    ·refine Ends.succ ?_ (fun k => by rw [jF.j0])
     exact .neg Bool.false_ne_true (hd.bind (.val _))
end Go.Proofs.YtgliaoanlhbepaaGreatDoor.Q
end
section
namespace Go.Proofs.YtgliaoanlhbepaaGreatDoor.Q
open Go.RowKit Go.Proofs.bT.eG Go.Proofs.bT.iM Go.Proofs.bT.jd
set_option linter.unusedVariables false
set_option linter.unusedSimpArgs false
open Classical in
noncomputable def txt (l : List eP) (j : Nat) : List UInt8 := if h : oU (ak l (j : Int)) then Classical.choose (Rv _ h) else []
theorem La (l : List eP) (j : Nat) (h : oU (ak l (j : Int))) : (txt l j).length ≤ 30 ∧ Ends (fun k => Gs k (ak l (j : Int))) ⟨(txt l j).toArray⟩ ∧ Ends (fun k => Dz k (ak l (j : Int))) ⟨(txt l j).toArray⟩ := by
 unfold txt
 rw [dif_pos h]
 exact Classical.choose_spec (Rv _ h)
theorem Rw (l : List eP) (j : Nat) : (txt l j).length ≤ 30 := by
 by_cases h : oU (ak l (j : Int))
 ·exact (La l j h).1
 ·unfold txt; rw [dif_neg h]; simp
noncomputable def oV (l : List eP) (n : Nat) : List (List UInt8) := (List.range n).map (txt l)
noncomputable def joined (l : List eP) (n : Nat) : List UInt8 := Go.Lib.join (oV l n) [44]
theorem Lb (l : List eP) : joined l 0 = [] := rfl
theorem Rx (l : List eP) : joined l 1 = txt l 0 := by
 show Go.Lib.join [txt l 0] [44] = _
 exact Go.Lib.join_one _ _
theorem Ry (l : List eP) (n : Nat) (h : 0 < n) : joined l (n + 1) = joined l n ++ [44] ++ txt l n := by
 obtain ⟨m, rfl⟩ : ∃ m, n = m + 1 := ⟨n - 1, by omega⟩
 unfold joined oV
 rw [List.range_succ, List.map_append]
 have : (List.range (m + 1)).map (txt l) = txt l 0 :: ((List.range m).map fun i => txt l (i + 1)) := by
  rw [List.range_succ_eq_map, List.map_cons, List.map_map]; rfl
 rw [this, List.cons_append, Go.Lib.join_cons, Go.Lib.join_cons]
 simp [Go.Lib.joinTail]
theorem Gt (l : List eP) : ∀ n, (joined l n).length ≤ 31 * n
 | 0 => by rw [Lb]; simp
 | 1 => by rw [Rx]; have := Rw l 0; omega
 | n + 2 => by
  rw [Ry l (n + 1) (by omega)]
  have := Gt l (n + 1)
  have := Rw l (n + 1)
  simp only [List.length_append, List.length_cons, List.length_nil]
  omega
noncomputable def whole (a : ByteArray) (l : List eP) : ByteArray := ((a ++ (⟨#[40]⟩ : ByteArray)) ++ ⟨(joined l l.length).toArray⟩) ++ (⟨#[41]⟩ : ByteArray)
theorem Gu (a b : ByteArray) : (a ++ b).size = a.size + b.size := ByteArray.size_append
theorem ZB (a : ByteArray) (l : List eP) (ha : a.size ≤ 1000000000) (hl : l.length ≤ 1000000000) (hg : ∀ j : Nat, j < l.length → oU (ak l (j : Int))) : ∀ (m n : Nat), n ≤ l.length → l.length - n ≤ m → Ends (fun k => lG.l0 k a ((oV l n).map fun t => ⟨t.toArray⟩) l (l.length : Int) (n : Int)) (whole a l) := by
 intro m
 induction m with
 | zero =>
  intro n hn hm
  obtain rfl : n = l.length := by omega
  refine Ends.succ ?_ (fun k => by rw [lG.l0])
  refine .neg (by omega) (.pos (by omega) ?_)
  have e1 : ((oV l l.length).map fun t => (⟨t.toArray⟩ : ByteArray)).map (·.data.toList) = oV l l.length := by
   rw [List.map_map]
   exact (List.map_congr_left fun t _ => rfl).trans (List.map_id _)
  have hj := Gt l l.length
  have e2 : strings_Join.f ((oV l l.length).map fun t => (⟨t.toArray⟩ : ByteArray)) (⟨#[44]⟩ : ByteArray) = some ⟨(joined l l.length).toArray⟩ := by
   unfold strings_Join.f
   have e3 : Go.Lib.join (((oV l l.length).map fun t => (⟨t.toArray⟩ : ByteArray)).map (·.data.toList)) (⟨#[44]⟩ : ByteArray).data.toList = joined l l.length := by rw [e1]; rfl
   rw [e3, if_pos (by rw [List.length_map, oV, List.length_map, List.length_range]; omega), if_pos (by omega)]
  rw [e2]
  have e4 := size_bytes (joined l l.length)
  refine Ends.bind (.val _) (.pos ?_ (.pos ?_ (.val _)))
  ·show a.size + 1 + _ ≤ _; rw [e4]; omega
  ·show a.size + 1 + _ + 1 ≤ _; rw [e4]; omega
 | succ m ih =>
  intro n hn hm
  by_cases h : n = l.length
  ·exact (ih n hn (by omega))
  ·refine Ends.succ ?_ (fun k => by rw [lG.l0])
   obtain ⟨h1, h2, h3⟩ := La l n (hg n (by omega))
   refine .pos (by omega) (.pos (by omega) (.pos (by omega) (Ends.bind (g := fun k => Gs k (ak l (n : Int))) h2 (.pos ?_ ?_))))
   ·rw [List.length_map, oV, List.length_map, List.length_range]; omega
   ·have e1 : wrap64 ((n : Int) + 1) = ((n + 1 : Nat) : Int) := jR (by omega) (by omega)
    have e2 : ((oV l n).map fun t => (⟨t.toArray⟩ : ByteArray)) ++ [⟨(txt l n).toArray⟩] = (oV l (n + 1)).map fun t => (⟨t.toArray⟩ : ByteArray) := by
     unfold oV
     rw [List.range_succ, List.map_append, List.map_append]; rfl
    rw [e1, e2]
    exact ih (n + 1) (by omega) (by omega)
theorem ZC (a : ByteArray) (l : List eP) (ha : a.size ≤ 1000000000) (hl : l.length ≤ 1000000000) (hg : ∀ j : Nat, j < l.length → oU (ak l (j : Int))) : ∀ (m n : Nat), n ≤ l.length → l.length - n ≤ m → Ends (fun k => kI.l0 k l ((a ++ (⟨#[40]⟩ : ByteArray)) ++ ⟨(joined l n).toArray⟩) (n : Int)) (whole a l) := by
 intro m
 induction m with
 | zero =>
  intro n hn hm
  obtain rfl : n = l.length := by omega
  refine Ends.succ ?_ (fun k => by rw [kI.l0])
  have hj := Gt l l.length
  refine .neg (by omega) (.pos ?_ (.val _))
  have e4 := size_bytes (joined l l.length)
  rw [Gu, Gu]
  show a.size + 1 + _ + 1 ≤ _; rw [e4]; omega
 | succ m ih =>
  intro n hn hm
  by_cases h : n = l.length
  ·exact (ih n hn (by omega))
  ·refine Ends.succ ?_ (fun k => by rw [kI.l0])
   obtain ⟨h1, h2, h3⟩ := La l n (hg n (by omega))
   have hj := Gt l n
   have e1 : wrap64 ((n : Int) + 1) = ((n + 1 : Nat) : Int) := jR (by omega) (by omega)
   have es : ((a ++ (⟨#[40]⟩ : ByteArray)) ++ ⟨(joined l n).toArray⟩).size = a.size + 1 + (joined l n).length := by rw [Gu, Gu, size_bytes]; rfl
   have et := size_bytes (txt l n)
   have ih := ih (n + 1) (by omega) (by omega)
   refine .pos (by omega) ?_
   by_cases h0 : (n : Int) > 0
   ·refine .pos h0 (.pos (by rw [es]; omega) (.pos (by omega) (Ends.bind (g := fun k => Dz k (ak l (n : Int))) h3 (.pos (by rw [es, et]; omega) ?_))))
    rw [e1]
    have e2 : (((a ++ (⟨#[40]⟩ : ByteArray)) ++ ⟨(joined l n).toArray⟩) ++ (⟨#[44]⟩ : ByteArray)) ++ ⟨(txt l n).toArray⟩ = (a ++ (⟨#[40]⟩ : ByteArray)) ++ ⟨(joined l (n + 1)).toArray⟩ := by
     rw [Ry l n (by omega)]
     apply ByteArray.ext
     simp [ByteArray.data_append]
    rw [e2]; exact ih
   ·obtain rfl : n = 0 := by omega
    refine .neg h0 (.pos (by omega) (Ends.bind (g := fun k => Dz k (ak l ((0 : Nat) : Int))) h3 (.pos (by rw [es, et]; omega) ?_)))
    rw [e1]
    have e2 : ((a ++ (⟨#[40]⟩ : ByteArray)) ++ ⟨(joined l 0).toArray⟩) ++ ⟨(txt l 0).toArray⟩ = (a ++ (⟨#[40]⟩ : ByteArray)) ++ ⟨(joined l (0 + 1)).toArray⟩ := by
     rw [Lb, Rx]
     apply ByteArray.ext
     simp [ByteArray.data_append]
    rw [e2]; exact ih
theorem ZE (a : ByteArray) (l : List eP) (ha : a.size ≤ 1000000000) (hl : l.length ≤ 1000000000) (hg : ∀ j : Nat, j < l.length → oU (ak l (j : Int))) : Ends (fun k => lG.f k a l) (whole a l) :=
 ZB a l ha hl hg l.length 0 (by omega) (by omega)
theorem ZF (a : ByteArray) (l : List eP) (ha : a.size ≤ 1000000000) (hl : l.length ≤ 1000000000) (hg : ∀ j : Nat, j < l.length → oU (ak l (j : Int))) : Ends (fun k => kI.f k a l) (whole a l) := by
 have := ZC a l ha hl hg l.length 0 (by omega) (by omega)
 have e : (a ++ (⟨#[40]⟩ : ByteArray)) ++ ⟨(joined l 0).toArray⟩ = a ++ (⟨#[40]⟩ : ByteArray) := by
  rw [Lb]
  apply ByteArray.ext
  simp [ByteArray.data_append]
 rw [e] at this
 unfold kI.f
 exact .pos (by omega) this
theorem ZG (a : ByteArray) (l : List eP) (ha : a.size ≤ 1000000000) (hl : l.length ≤ 1000000000) : ∀ (m n : Nat), n ≤ l.length → l.length - n ≤ m → (∀ j : Nat, j < n → oU (ak l (j : Int))) → ∃ r, Ends (fun k => j4.l0 k a l l (l.length : Int) (n : Int)) r ∧ Ends (fun k => gZ.l0 k a l (n : Int)) r := by
 intro m
 induction m with
 | zero =>
  intro n hn hm hg
  obtain rfl : n = l.length := by omega
  refine ⟨(whole a l, 0), Ends.succ ?_ (fun k => by rw [j4.l0]), Ends.succ ?_ (fun k => by rw [gZ.l0])⟩
  ·exact .neg (by omega) ((ZE a l ha hl hg).bind (.val _))
  ·exact .neg (by omega) ((ZF a l ha hl hg).bind (.val _))
 | succ m ih =>
  intro n hn hm hg
  by_cases h : n = l.length
  ·exact ih n hn (by omega) hg
  ·obtain ⟨c, d, hc, hd, hcd, hgood⟩ := Zy (ak l (n : Int))
   have e1 : wrap64 ((n : Int) + 1) = ((n + 1 : Nat) : Int) := jR (by omega) (by omega)
   by_cases h0 : c = 0
   ·obtain ⟨r, hr, hr'⟩ := ih (n + 1) (by omega) (by omega) (fun j hj => by
     by_cases hjn : j = n
     ·subst hjn; exact hgood h0
     ·exact hg j (by omega))
    refine ⟨r, Ends.succ ?_ (fun k => by rw [j4.l0]), Ends.succ ?_ (fun k => by rw [gZ.l0])⟩
    ·refine .pos (by omega) (.pos (by omega) (.pos (by omega) (Ends.bind (g := fun k => wO k (ak l (n : Int))) hc (.pos h0 ?_))))
     rw [e1]; exact hr
    ·refine .pos (by omega) (.pos (by omega) (Ends.bind (g := fun k => wP k (ak l (n : Int))) hd (.pos (hcd.1 h0) ?_)))
     rw [e1]; exact hr'
   ·refine ⟨((⟨#[]⟩ : ByteArray), 1), Ends.succ ?_ (fun k => by rw [j4.l0]), Ends.succ ?_ (fun k => by rw [gZ.l0])⟩
    ·exact .pos (by omega) (.pos (by omega) (.pos (by omega) (Ends.bind (g := fun k => wO k (ak l (n : Int))) hc (.neg h0 (.val _)))))
    ·exact .pos (by omega) (.pos (by omega) (Ends.bind (g := fun k => wP k (ak l (n : Int))) hd (.neg (fun h => h0 (hcd.2 h)) (.val _))))
theorem ZH (a : ByteArray) (l : List eP) (ha : a.size ≤ 1000000000) (hl : l.length ≤ 1000000000) : ∃ k, BP.f k a l = some true := by
 obtain ⟨r, h1, h2⟩ := ZG a l ha hl l.length 0 (by omega) (by omega) (by omega)
 have : Ends (fun k => BP.f k a l) true := by
  unfold BP.f j4.f gZ.f
  refine Ends.bind h1 (Ends.bind h2 (.pos rfl (.pos rfl ?_)))
  exact .val _
 obtain ⟨k, hk⟩ := this
 exact ⟨k, hk k (Nat.le_refl _)⟩
end Go.Proofs.YtgliaoanlhbepaaGreatDoor.Q
end
