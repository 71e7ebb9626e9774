/- The plain laws: what the program computes and what the reference computes are the same. -/
import Derived.Test.YticpmplmbobnpaaGreatDoorQ3
import Derived.IntWalk
import Derived.Laws.Cover4
import Derived.Lib.ItoaLen
section
namespace Go.Proofs.ZzShop.Q
open Go.RowKit Go.Proofs.ZzShopW.PrintWords Go.Proofs.ZzShopW.PrintLast Go.Proofs.ZzShopW.PrintMore Go.Proofs.GreatGiven
set_option linter.unusedVariables false
set_option linter.unusedSimpArgs false
def Ends {α : Type} (g : Nat → Option α) (r : α) : Prop := ∃ k, ∀ j, k ≤ j → g j = some r
namespace Ends
variable {α β : Type}
theorem val (r : α) : Ends (fun _ => some r) r := ⟨0, fun _ _ => rfl⟩
theorem bind {g : Nat → Option α} {h : Nat → α → Option β} {a : α} {b : β} (hg : Ends g a) (hh : Ends (fun k => h k a) b) : Ends (fun k => (g k).bind (h k)) b := by
  obtain ⟨k1, h1⟩ := hg
  obtain ⟨k2, h2⟩ := hh
  refine ⟨max k1 k2, fun j hj => ?_⟩
  show (g j).bind _ = _
  rw [h1 j (by omega)]
  exact h2 j (by omega)
theorem succ {g g' : Nat → Option α} {r : α} (h : Ends g' r) (e : ∀ k, g (k + 1) = g' k) : Ends g r := by
  obtain ⟨k, h⟩ := h
  refine ⟨k + 1, fun j hj => ?_⟩
  obtain ⟨i, rfl⟩ : ∃ i, j = i + 1 := ⟨j - 1, by omega⟩
  rw [e]; exact h i (by omega)
theorem pos {c : Prop} [Decidable c] {g g' : Nat → Option α} {r : α} (hc : c) (h : Ends g r) : Ends (fun k => if c then g k else g' k) r := by
  simp only [if_pos hc]; exact h
theorem neg {c : Prop} [Decidable c] {g g' : Nat → Option α} {r : α} (hc : ¬ c) (h : Ends g' r) : Ends (fun k => if c then g k else g' k) r := by
  simp only [if_neg hc]; exact h
end Ends
namespace Halts
variable {α β : Type}
end Halts
theorem w64 {n : Int} (h0 : -9223372036854775808 ≤ n) (h1 : n ≤ 9223372036854775807) : wrap64 n = n := by unfold wrap64; omega
theorem digit_at : ∀ d : Fin 10, (⟨#[48, 49, 50, 51, 52, 53, 54, 55, 56, 57, 97, 98, 99, 100, 101, 102]⟩ : ByteArray).extract d.val (d.val + 1) = ⟨#[UInt8.ofNat (48 + d.val)]⟩ := by decide +kernel
theorem digit_int (n : Int) (h0 : 0 ≤ n) (h1 : n < 10) : (⟨#[48, 49, 50, 51, 52, 53, 54, 55, 56, 57, 97, 98, 99, 100, 101, 102]⟩ : ByteArray).extract (n : Int).toNat ((wrap64 (n + 1)) : Int).toNat = ⟨#[UInt8.ofNat (48 + n.toNat)]⟩ := by
  rw [w64 (by omega) (by omega)]
  have e : (n + 1).toNat = n.toNat + 1 := by omega
  rw [e]
  exact digit_at ⟨n.toNat, by omega⟩
theorem cons_bytes (c : UInt8) (l : List UInt8) : (⟨#[c]⟩ : ByteArray) ++ ⟨l.toArray⟩ = ⟨(c :: l).toArray⟩ := by
  apply ByteArray.ext
  rw [ByteArray.data_append]
  simp
theorem size_bytes (l : List UInt8) : (⟨l.toArray⟩ : ByteArray).size = l.length := rfl
theorem based_l_ends : ∀ (m : Nat) (n : Int) (l : List UInt8), 0 ≤ n → n ≤ m → n ≤ 1000000000000000 → l.length + m ≤ 1000000000000000000 → Ends (fun k => mandrelref01_based.l0 k n 10 ⟨l.toArray⟩) ⟨(Go.Lib.decDigits n.toNat ++ l).toArray⟩ := by
  intro m
  induction m using Nat.strongRecOn with
  | _ m ih =>
    intro n l h0 hm h1 ht
    refine Ends.succ ?_ (fun k => by rw [mandrelref01_based.l0])
    by_cases hn : n ≥ 10
    · have e1 : Int.tmod n 10 = n % 10 := Int.tmod_eq_emod_of_nonneg h0
      have e2 : Int.tdiv n 10 = n / 10 := Int.tdiv_eq_ediv_of_nonneg h0
      rw [e1, e2, digit_int (n % 10) (by omega) (by omega), cons_bytes]
      have ew : wrap64 (n % 10 + 1) = n % 10 + 1 := w64 (by omega) (by omega)
      have ez : (⟨#[UInt8.ofNat (48 + (n % 10).toNat)]⟩ : ByteArray).size = 1 := rfl
      have es := size_bytes l
      rw [ew, ez, w64 (n := n / 10) (by omega) (by omega)]
      refine Ends.pos hn (Ends.neg (by decide) (Ends.pos (by omega) (Ends.pos (by omega) (Ends.pos (by omega) (Ends.pos (by omega) ?_)))))
      have := ih (n / 10).toNat (by omega) (n / 10) (UInt8.ofNat (48 + (n % 10).toNat) :: l) (by omega) (by omega) (by omega) (by simp only [List.length_cons]; omega)
      have e3 : Go.Lib.decDigits n.toNat ++ l = Go.Lib.decDigits (n / 10).toNat ++ (UInt8.ofNat (48 + (n % 10).toNat) :: l) := by
        rw [Go.Lib.decDigits, dif_neg (by omega)]
        have e4 : n.toNat / 10 = (n / 10).toNat := by omega
        have e5 : n.toNat % 10 = (n % 10).toNat := by omega
        rw [e4, e5, List.append_assoc]; rfl
      rw [e3]
      exact this
    · rw [digit_int n h0 (by omega), cons_bytes]
      have ew : wrap64 (n + 1) = n + 1 := w64 (by omega) (by omega)
      have ez : (⟨#[UInt8.ofNat (48 + n.toNat)]⟩ : ByteArray).size = 1 := rfl
      have es := size_bytes l
      rw [ew, ez]
      refine Ends.neg hn (Ends.pos h0 (Ends.pos (by omega) (Ends.pos (by omega) (Ends.pos (by omega) ?_))))
      have e3 : Go.Lib.decDigits n.toNat ++ l = UInt8.ofNat (48 + n.toNat) :: l := by
        rw [Go.Lib.decDigits, dif_pos (by omega)]; rfl
      rw [e3]
      exact .val _
theorem itoa_short (n : Int) (h0 : -1000000000000000 ≤ n) (h1 : n ≤ 1000000000000000) : (Go.Lib.itoa n).length ≤ 21 := Go.Lib.itoa_length_le n (by omega) (by omega)
theorem decimal_ends (n : Int) (h0 : -1000000000000000 ≤ n) (h1 : n ≤ 1000000000000000) : Ends (fun k => mandrelref01_Decimal.f k n) ⟨(Go.Lib.itoa n).toArray⟩ := by
  have hp : ∀ p : Int, 0 ≤ p → p ≤ 1000000000000000 → Ends (fun k => mandrelref01_based.f k p 10) ⟨(Go.Lib.itoa p).toArray⟩ := by
    intro p h0 h1
    refine Ends.succ ?_ (fun k => by rw [mandrelref01_based.f, if_neg (by omega)])
    have := based_l_ends p.toNat p [] h0 (by omega) h1 (by simp only [List.length_nil]; omega)
    rw [List.append_nil] at this
    unfold Go.Lib.itoa
    rw [if_neg (by omega)]
    exact this
  have hb : Ends (fun k => mandrelref01_based.f k n 10) ⟨(Go.Lib.itoa n).toArray⟩ := by
    by_cases hn : n < 0
    · refine Ends.succ ?_ (fun k => by rw [mandrelref01_based.f, if_pos hn])
      rw [w64 (by omega) (by omega)]
      refine Ends.bind (hp (-n) (by omega) (by omega)) ?_
      have hl := itoa_short (-n) (by omega) (by omega)
      refine Ends.pos (by rw [size_bytes]; omega) ?_
      rw [cons_bytes]
      have e : Go.Lib.itoa n = 45 :: Go.Lib.itoa (-n) := by
        unfold Go.Lib.itoa
        rw [if_pos hn, if_neg (by omega)]
        congr 2
        omega
      rw [e]
      exact .val _
    · exact hp n (by omega) h1
  unfold mandrelref01_Decimal.f
  exact hb.bind (.val _)
theorem toList_len (s : ByteArray) : s.data.toList.length = s.size := by rw [Array.length_toList]; rfl
theorem bt_get (s : ByteArray) (i : Nat) (h : i < s.data.toList.length) : bt s (i : Int) = ((s.data.toList[i]).toNat : Int) := by
  have hl := toList_len s
  rw [← getD_bt s i (by simpa using (by omega : i < s.size))]
  simp [List.getD_eq_getElem?_getD, List.getElem?_eq_getElem h]
theorem refSum_l_ends (s : ByteArray) (hs : s.size ≤ 1000000000000) : ∀ (d i : Nat) (m : Int), i + d = s.size → Ends (fun k => mandrelref25_Sum.l0 k s m (i : Int)) (sumB m (s.data.toList.drop i))
  | 0, i, m, h => by
    have hl := toList_len s
    refine Ends.succ (g' := fun _ => some m) ?_ (fun k => by rw [mandrelref25_Sum.l0, if_neg (by omega)])
    rw [List.drop_eq_nil_of_le (by omega)]
    exact .val _
  | d + 1, i, m, h => by
    have hl := toList_len s
    have hi : i < s.data.toList.length := by omega
    have hw : wrap64 ((i : Int) + 1) = ((i + 1 : Nat) : Int) := by unfold wrap64; omega
    have hb := bt_get s i hi
    have hr := (s.data.toList[i]).toNat_lt
    have hbw : wrap64 (bt s (i : Int)) = bt s (i : Int) := by rw [hb]; unfold wrap64; omega
    refine Ends.succ ?_ (fun k => by rw [mandrelref25_Sum.l0, if_pos (by omega), if_pos (by omega), hw, hbw, hb])
    rw [List.drop_eq_getElem_cons hi]
    exact refSum_l_ends s hs d (i + 1) _ (by omega)
theorem refSum_ends (n : Int) (s : ByteArray) (hs : s.size ≤ 1000000000000) : Ends (fun k => mandrelref25_Sum.f k n s) (sumT n s) := by
  have h1 : -1000003 < Int.tmod n 1000003 := by
    have := Int.lt_tmod_of_pos n (b := 1000003) (by omega)
    omega
  have h2 : Int.tmod n 1000003 < 1000003 := Int.tmod_lt_of_pos n (by omega)
  have e : Int.tmod (wrap64 (Int.tmod n 1000003 + 1000003)) 1000003 = sum0 n := by
    have : wrap64 (Int.tmod n 1000003 + 1000003) = Int.tmod n 1000003 + 1000003 := by unfold wrap64; omega
    rw [this, Int.tmod_eq_emod_of_nonneg (by omega)]
    unfold sum0
    rw [this]
    split <;> omega
  unfold mandrelref25_Sum.f sumT
  rw [e]
  have := refSum_l_ends s hs s.size 0 (sum0 n) (by omega)
  simpa using this
theorem indexByte_mem (l : List UInt8) (c : UInt8) : decide (0 ≤ Go.Lib.indexByte l c) = l.contains c := by
  induction l with
  | nil => rfl
  | cons b l ih =>
    have hge := Go.Lib.indexByte_ge l c
    unfold Go.Lib.indexByte
    rw [List.contains_cons]
    by_cases hb : b == c
    · have : c == b := by rw [beq_iff_eq] at *; exact hb.symm
      rw [if_pos hb, this]; rfl
    · have hb' : (c == b) = false := by
        cases h : (c == b) with
        | false => rfl
        | true => rw [beq_iff_eq] at h; exact absurd (by rw [beq_iff_eq]; exact h.symm) hb
      rw [if_neg hb, hb', Bool.false_or, ← ih]
      by_cases h1 : Go.Lib.indexByte l c == -1
      · rw [if_pos h1]
        rw [beq_iff_eq] at h1
        rw [h1]
      · rw [if_neg h1]
        have h1' : ¬ Go.Lib.indexByte l c = -1 := by simpa using h1
        rw [decide_eq_true (by omega : (0 : Int) ≤ Go.Lib.indexByte l c + 1), decide_eq_true (by omega : (0 : Int) ≤ Go.Lib.indexByte l c)]
theorem isLine_l_ends (s : ByteArray) (hs : s.size ≤ 1000000000000) : ∀ (d i : Nat), i + d = s.size → Ends (fun k => mandrelref25_isLine.l0 k s (i : Int)) (!(s.data.toList.drop i).contains 10)
  | 0, i, h => by
    have hl := toList_len s
    refine Ends.succ (g' := fun _ => some true) ?_ (fun k => by rw [mandrelref25_isLine.l0, if_neg (by omega)])
    rw [List.drop_eq_nil_of_le (by omega)]
    exact .val _
  | d + 1, i, h => by
    have hl := toList_len s
    have hi : i < s.data.toList.length := by omega
    have hw : wrap64 ((i : Int) + 1) = ((i + 1 : Nat) : Int) := by unfold wrap64; omega
    have hb := bt_get s i hi
    refine Ends.succ ?_ (fun k => by rw [mandrelref25_isLine.l0, if_pos (by omega), if_pos (by omega), hw, hb])
    rw [List.drop_eq_getElem_cons hi, List.contains_cons]
    by_cases hc : s.data.toList[i] = 10
    · rw [hc]
      exact Ends.pos rfl (.val _)
    · have hn : ¬ ((s.data.toList[i]).toNat : Int) = 10 := fun e => hc (UInt8.toNat_inj.1 (by
        have : (10 : UInt8).toNat = 10 := rfl
        omega))
      have hbq : ((10 : UInt8) == s.data.toList[i]) = false := by
        cases h : ((10 : UInt8) == s.data.toList[i]) with
        | false => rfl
        | true => rw [beq_iff_eq] at h; exact absurd h.symm hc
      rw [hbq, Bool.false_or]
      exact Ends.neg hn (isLine_l_ends s hs d (i + 1) (by omega))
theorem isLine_ends (s : ByteArray) (hs : s.size ≤ 1000000000000) : Ends (fun k => mandrelref25_isLine.f k s) (isOrderB s) := by
  unfold mandrelref25_isLine.f isOrderB
  rw [indexByte_mem]
  by_cases h1 : (s.size : Int) < 1
  · refine Ends.pos h1 (Ends.succ (g' := fun _ => some false) ?_ (fun k => by rw [mandrelref25_isLine.j0, if_pos rfl]))
    rw [decide_eq_false (by omega : ¬ 1 ≤ s.size), Bool.false_and]
    exact .val _
  · refine Ends.neg h1 ?_
    rw [decide_eq_true (by omega : 1 ≤ s.size), Bool.true_and]
    by_cases h2 : (s.size : Int) > 200
    · rw [decide_eq_true h2, decide_eq_false (by omega : ¬ s.size ≤ 200), Bool.false_and]
      exact Ends.succ (g' := fun _ => some false) (.val _) (fun k => by rw [mandrelref25_isLine.j0, if_pos rfl])
    · rw [decide_eq_false h2, decide_eq_true (by omega : s.size ≤ 200), Bool.true_and]
      refine Ends.succ ?_ (fun k => by rw [mandrelref25_isLine.j0, if_neg (by decide)])
      have := isLine_l_ends s hs s.size 0 (by omega)
      simpa using this
end Go.Proofs.ZzShop.Q
end
section
namespace Go.Proofs.ZzShop.Q
open Go.RowKit Go.Proofs.ZzShopW.PrintWords Go.Proofs.ZzShopW.PrintLast Go.Proofs.ZzShopW.PrintMore Go.Proofs.GreatGiven
set_option linter.unusedVariables false
set_option linter.unusedSimpArgs false
theorem rd_get (l : List ByteArray) (i : Nat) (h : i < l.length) : rdOf ByteArray.empty l (i : Int) = l[i] := by
  simp [rdOf, List.getElem?_eq_getElem h]
theorem line_bytes (acc : List UInt8) (t : Int) (s : ByteArray) : (⟨acc.toArray⟩ : ByteArray) ++ (((⟨(Go.Lib.itoa t).toArray⟩ ++ (⟨#[32]⟩ : ByteArray)) ++ s) ++ (⟨#[10]⟩ : ByteArray)) = ⟨(acc ++ lineT t s).toArray⟩ := by
  apply ByteArray.ext
  simp [lineT, ByteArray.data_append]
theorem book_l_ends (l : List ByteArray) (hl : l.length ≤ 1000000000000) : ∀ (d i : Nat) (m : Int) (acc : List UInt8), i + d = l.length → acc.length + bulkT (l.drop i) ≤ 1000000000000 →
    Ends (fun k => mandrelref25_book.l0 k l ⟨acc.toArray⟩ m (i : Int)) ⟨(acc ++ bookGo m (l.drop i)).toArray⟩
  | 0, i, m, acc, h, hb => by
    refine Ends.succ (g' := fun _ => some ⟨acc.toArray⟩) ?_ (fun k => by rw [mandrelref25_book.l0, if_neg (by omega)])
    rw [List.drop_eq_nil_of_le (by omega)]
    simp only [bookGo, List.append_nil]
    exact .val _
  | d + 1, i, m, acc, h, hb => by
    have hi : i < l.length := by omega
    have hw : wrap64 ((i : Int) + 1) = ((i + 1 : Nat) : Int) := by unfold wrap64; omega
    have hd : l.drop i = l[i] :: l.drop (i + 1) := List.drop_eq_getElem_cons hi
    rw [hd] at hb ⊢
    simp only [bulkT] at hb
    have hr := sumT_range m l[i]
    have hn := itoa_len (sumT m l[i]) hr.1 hr.2
    refine Ends.succ ?_ (fun k => by rw [mandrelref25_book.l0, if_pos (by omega), if_pos (by omega), hw, rd_get l i hi])
    refine (refSum_ends m l[i] (by omega)).bind ?_
    refine (decimal_ends (sumT m l[i]) (by omega) (by omega)).bind ?_
    rw [size_bytes (Go.Lib.itoa (sumT m l[i])), size_bytes acc]
    refine Ends.pos (by omega) (Ends.pos (by omega) (Ends.pos (by omega) (Ends.pos (by omega) ?_)))
    rw [line_bytes]
    have hll := lineT_len (sumT m l[i]) l[i] hr.1 hr.2
    have := book_l_ends l hl d (i + 1) (sumT m l[i]) (acc ++ lineT (sumT m l[i]) l[i]) (by omega) (by rw [List.length_append]; omega)
    rw [List.append_assoc] at this
    exact this
theorem book_ends (l : List ByteArray) (hb : bulkT l ≤ 1000000000000) : Ends (fun k => mandrelref25_book.f k l) ⟨(bookT l).toArray⟩ := by
  have hlen := bulk_len l
  have := book_l_ends l (by omega) l.length 0 0 [] (by omega) (by simpa using hb)
  unfold mandrelref25_book.f bookT
  simpa using this
theorem refWrite_l_ends (l : List ByteArray) (hb : bulkT l ≤ 1000000000000) : ∀ (d i : Nat), i + d = l.length →
    Ends (fun k => mandrelref25_Write.l0 k l (i : Int)) (if (l.drop i).all isOrderB = true then (⟨(bookT l).toArray⟩, 0) else (⟨#[]⟩, 1))
  | 0, i, h => by
    refine Ends.succ ?_ (fun k => by rw [mandrelref25_Write.l0, if_neg (by omega)])
    rw [List.drop_eq_nil_of_le (by omega), if_pos (by rfl)]
    exact (book_ends l hb).bind (.val _)
  | d + 1, i, h => by
    have hlen := bulk_len l
    have hi : i < l.length := by omega
    have hw : wrap64 ((i : Int) + 1) = ((i + 1 : Nat) : Int) := by unfold wrap64; omega
    have hle := bulk_le l i l[i] (List.getElem?_eq_getElem hi)
    have hss : l[i].size ≤ 1000000000000 := by
      have : ∀ (l : List ByteArray) (j : Nat), bulkT (l.drop j) ≤ bulkT l := by
        intro l
        induction l with
        | nil => intro j; simp
        | cons x l ih =>
          intro j
          cases j with
          | zero => exact Nat.le_refl _
          | succ j => have := ih j; simp only [List.drop_succ_cons, bulkT]; omega
      have := this l i
      omega
    refine Ends.succ ?_ (fun k => by rw [mandrelref25_Write.l0, if_pos (by omega), if_pos (by omega), hw, rd_get l i hi])
    refine (isLine_ends l[i] hss).bind ?_
    rw [List.drop_eq_getElem_cons hi, List.all_cons]
    cases ho : isOrderB l[i] with
    | true =>
      rw [Bool.true_and]
      exact Ends.pos rfl (refWrite_l_ends l hb d (i + 1) (by omega))
    | false =>
      rw [Bool.false_and, if_neg (by decide)]
      exact Ends.neg (by decide) (.val _)
theorem refWrite_ends (l : List ByteArray) (hb : bulkT l ≤ 1000000000000) : Ends (fun k => mandrelref25_Write.f k l) (writeT l) := by
  unfold mandrelref25_Write.f writeT
  by_cases h : 60 < l.length
  · rw [if_pos h]
    exact Ends.pos (by omega) (.val _)
  · rw [if_neg h]
    refine Ends.neg (by omega) ?_
    have := refWrite_l_ends l hb l.length 0 (by omega)
    simpa [allOrder] using this
theorem write_some (l : List ByteArray) (hb : bulkT l ≤ 1000000000000) : shop_Write.f l = some (writeT l) := by
  unfold shop_Write.f
  rw [if_pos hb]
def totalT : List ByteArray → Nat
  | [] => 0
  | s :: l => s.size + totalT l
theorem bulk_total : ∀ l : List ByteArray, bulkT l = totalT l + 30 * l.length
  | [] => rfl
  | s :: l => by have := bulk_total l; simp only [bulkT, totalT, List.length_cons]; omega
theorem total_le (b : Nat) : ∀ l : List ByteArray, (∀ t ∈ l, t.size ≤ b) → totalT l ≤ b * l.length
  | [], _ => Nat.zero_le _
  | s :: l, h => by
    have h1 := total_le b l fun t ht => h t (.tail _ ht)
    have h2 := h s (.head _)
    simp only [totalT, List.length_cons, Nat.mul_add, Nat.mul_one]
    omega
theorem over_many (l : List ByteArray) (hl : l.length ≤ 1000000000000000) (h120 : 120 < l.length) : ∀ (d i : Nat) (n : Int), i + d = l.length → Ends (fun k => mandrellaw25_Over.l0 k l n (i : Int)) true
  | 0, i, n, h => by
    refine Ends.succ (g' := fun _ => some true) (.val _) (fun k => by rw [mandrellaw25_Over.l0, if_neg (by omega), if_pos (by omega)])
  | d + 1, i, n, h => by
    have hw : wrap64 ((i : Int) + 1) = ((i + 1 : Nat) : Int) := by unfold wrap64; omega
    refine Ends.succ ?_ (fun k => by rw [mandrellaw25_Over.l0, if_pos (by omega), if_pos (by omega), hw])
    exact over_many l hl h120 d (i + 1) _ (by omega)
theorem over_few (l : List ByteArray) (h120 : l.length ≤ 120) : ∀ (d i : Nat) (n : Int), i + d = l.length → 0 ≤ n → n + (totalT (l.drop i) : Int) ≤ 1000000000000000000 → Ends (fun k => mandrellaw25_Over.l0 k l n (i : Int)) (decide (n + (totalT (l.drop i) : Int) > 40000))
  | 0, i, n, h, h0, h1 => by
    refine Ends.succ (g' := fun _ => some (decide (n > 40000))) ?_ (fun k => by rw [mandrellaw25_Over.l0, if_neg (by omega), if_neg (by omega)])
    rw [List.drop_eq_nil_of_le (by omega)]
    simp only [totalT, Int.natCast_zero, Int.add_zero, Int.ofNat_zero]
    exact .val _
  | d + 1, i, n, h, h0, h1 => by
    have hi : i < l.length := by omega
    have hw : wrap64 ((i : Int) + 1) = ((i + 1 : Nat) : Int) := by unfold wrap64; omega
    have hd : l.drop i = l[i] :: l.drop (i + 1) := List.drop_eq_getElem_cons hi
    rw [hd] at h1 ⊢
    simp only [totalT] at h1 ⊢
    have hw2 : wrap64 (n + ((l[i]).size : Int)) = n + ((l[i]).size : Int) := by unfold wrap64; omega
    refine Ends.succ ?_ (fun k => by rw [mandrellaw25_Over.l0, if_pos (by omega), if_pos (by omega), hw, rd_get l i hi, hw2])
    have := over_few l h120 d (i + 1) (n + ((l[i]).size : Int)) (by omega) (by omega) (by omega)
    rw [show n + ((l[i]).size : Int) + (totalT (l.drop (i + 1)) : Int) = n + (((l[i]).size + totalT (l.drop (i + 1)) : Nat) : Int) by omega] at this
    exact this
theorem sums_true (n : Int) (s : ByteArray) (l : List ByteArray) (hl : l.length ≤ 1000000000000000) (hsz : ∀ t ∈ l, t.size ≤ 1000000000000000) : ∃ k, mandrellaw25_ShopSums.f k n s l = some true := by
  have hjt : Ends (fun k => mandrellaw25_ShopSums.j0 k n s l true) true := Ends.succ (g' := fun _ => some true) (.val _) (fun k => by rw [mandrellaw25_ShopSums.j0, if_pos rfl]; rfl)
  have hjf : bulkT l ≤ 1000000000000 → s.size ≤ 1000000000000 → Ends (fun k => mandrellaw25_ShopSums.j0 k n s l false) true := by
    intro hb hs
    refine Ends.succ ?_ (fun k => by rw [mandrellaw25_ShopSums.j0, if_neg (by decide), write_some l hb, Option.bind_some])
    refine (refWrite_ends l hb).bind ?_
    have hs' : shop_Sum.f n s = some (sumT n s) := by unfold shop_Sum.f; rw [if_pos hs]
    rw [hs']
    refine Ends.bind (g := fun _ => some (sumT n s)) (.val _) ((refSum_ends n s hs).bind (Ends.pos rfl (Ends.pos rfl (Ends.pos rfl ?_))))
    exact .val _
  have key : Ends (fun k => mandrellaw25_ShopSums.f k n s l) true := by
    unfold mandrellaw25_ShopSums.f
    by_cases h120 : l.length ≤ 120
    · have ht := total_le 1000000000000000 l hsz
      have hov := over_few l h120 l.length 0 0 (by omega) (by omega) (by rw [List.drop_zero]; omega)
      rw [List.drop_zero] at hov
      refine Ends.bind (g := fun k => mandrellaw25_Over.f k l) hov ?_
      by_cases h4 : (0 : Int) + (totalT l : Int) > 40000
      · rw [decide_eq_true h4]
        exact Ends.pos rfl hjt
      · rw [decide_eq_false h4]
        refine Ends.neg (by decide) ?_
        by_cases hs : (s.size : Int) > 20000
        · rw [decide_eq_true hs]
          exact hjt
        · rw [decide_eq_false hs]
          have := bulk_total l
          exact hjf (by omega) (by omega)
    · exact Ends.bind (g := fun k => mandrellaw25_Over.f k l) (over_many l hl (by omega) l.length 0 0 (by omega)) (Ends.pos rfl hjt)
  obtain ⟨k, hk⟩ := key
  exact ⟨k, hk k (Nat.le_refl _)⟩
end Go.Proofs.ZzShop.Q
end
section
namespace Go.Proofs.ZzShop.Q
open Go.RowKit Go.Proofs.ZzShopW.PrintWords Go.Proofs.ZzShopW.PrintLast Go.Proofs.ZzShopW.PrintMore Go.Proofs.GreatGiven
set_option linter.unusedVariables false
set_option linter.unusedSimpArgs false
theorem Ends.const {α : Type} {o : Option α} {r : α} (h : o = some r) : Ends (fun _ => o) r := ⟨0, fun _ _ => h⟩
def posB (c : UInt8) : List UInt8 → Nat
  | [] => 0
  | b :: l => if b = c then 0 else posB c l + 1
theorem posB_le (c : UInt8) : ∀ l : List UInt8, posB c l ≤ l.length
  | [] => Nat.le_refl _
  | b :: l => by
    have := posB_le c l
    simp only [posB, List.length_cons]
    split <;> omega
theorem posB_split (c : UInt8) : ∀ l : List UInt8, posB c l < l.length → l = l.take (posB c l) ++ c :: l.drop (posB c l + 1)
  | [], h => by simp at h
  | b :: l, h => by
    simp only [posB] at h ⊢
    split at h
    · rename_i hb
      rw [if_pos hb, hb]
      rfl
    · rename_i hb
      rw [if_neg hb]
      have := posB_split c l (by simpa using h)
      rw [List.take_succ_cons, List.drop_succ_cons, List.cons_append, ← this]
theorem posB_cons (c b : UInt8) (l : List UInt8) : posB c (b :: l) = if b = c then 0 else posB c l + 1 := rfl
theorem indexByte_pos (c : UInt8) : ∀ l : List UInt8, Go.Lib.indexByte l c = if posB c l = l.length then -1 else (posB c l : Int)
  | [] => rfl
  | b :: l => by
    have ih := indexByte_pos c l
    have hle := posB_le c l
    have hlen : (b :: l).length = l.length + 1 := rfl
    unfold Go.Lib.indexByte
    by_cases hb : b = c
    · have : (b == c) = true := by rw [beq_iff_eq]; exact hb
      have hp : posB c (b :: l) = 0 := by rw [posB_cons, if_pos hb]
      rw [if_pos this, if_neg (by omega), hp]
      rfl
    · have : ¬ (b == c) = true := by rw [beq_iff_eq]; exact hb
      have hp : posB c (b :: l) = posB c l + 1 := by rw [posB_cons, if_neg hb]
      rw [if_neg this, ih]
      by_cases h : posB c l = l.length
      · have hm : ((-1 : Int) == -1) = true := rfl
        rw [if_pos h, if_pos hm, if_pos (by omega)]
      · have hn : ¬ ((posB c l : Int) == -1) = true := by rw [beq_iff_eq]; omega
        rw [if_neg h, if_neg hn, if_neg (by omega), hp]
        omega
theorem one_size (c : UInt8) : (⟨#[c]⟩ : ByteArray).size = 1 := rfl
theorem index_one (s : ByteArray) (c : UInt8) : stringslite_Index.f s ⟨#[c]⟩ = some (Go.Lib.indexByte s.data.toList c) := rfl
theorem cut_none (s : ByteArray) (c : UInt8) (h : posB c s.data.toList = s.size) : strings_Cut.f s ⟨#[c]⟩ = some (s, ⟨#[]⟩, false) := by
  unfold strings_Cut.f stringslite_Cut.f
  have hl := toList_len s
  rw [index_one, indexByte_pos, if_pos (by omega), Option.bind_some, if_neg (by omega), Option.bind_some]
  try rfl
theorem cut_some (s : ByteArray) (c : UInt8) (hs : s.size ≤ 1000000000000) (h : posB c s.data.toList < s.size) :
    strings_Cut.f s ⟨#[c]⟩ = some (s.extract 0 (posB c s.data.toList), s.extract (posB c s.data.toList + 1) s.size, true) := by
  unfold strings_Cut.f stringslite_Cut.f
  have hl := toList_len s
  have hw : wrap64 ((posB c s.data.toList : Int) + (((⟨#[c]⟩ : ByteArray).size : Nat) : Int)) = ((posB c s.data.toList + 1 : Nat) : Int) := by
    rw [one_size]; unfold wrap64; omega
  rw [index_one, indexByte_pos, if_neg (by omega), Option.bind_some, hw, if_pos (by omega), if_pos (by omega), if_pos (by omega), if_pos (by omega), if_pos (by omega), Option.bind_some, Int.toNat_natCast, Int.toNat_natCast]
  try rfl
theorem cut_any (s : ByteArray) (c : UInt8) (hs : s.size ≤ 1000000000000) : ∃ r, strings_Cut.f s ⟨#[c]⟩ = some r := by
  have hl := toList_len s
  have hle := posB_le c s.data.toList
  by_cases h : posB c s.data.toList = s.size
  · exact ⟨_, cut_none s c h⟩
  · exact ⟨_, cut_some s c hs (by omega)⟩
theorem ext_list (s : ByteArray) (a b : Nat) : (s.extract a b).data.toList = (s.data.toList.take b).drop a := by
  rw [ByteArray.data_extract, Array.toList_extract, List.extract, List.drop_take]
theorem ext_ext (s : ByteArray) (e a b : Nat) (hb : b ≤ e) : (s.extract 0 e).extract a b = s.extract a b := by
  rw [ByteArray.extract_extract]
  congr 1 <;> omega
def readGo : Nat → ByteArray → List ByteArray → Int → List ByteArray × ByteArray
  | 0, s, acc, _ => (acc, s)
  | n + 1, s, acc, m =>
    if posB 10 s.data.toList = s.size then (acc, s) else
    if posB 32 (s.data.toList.take (posB 10 s.data.toList)) = posB 10 s.data.toList then (acc, s) else
    if isOrderB (s.extract (posB 32 (s.data.toList.take (posB 10 s.data.toList)) + 1) (posB 10 s.data.toList)) = true then
      if (s.extract 0 (posB 32 (s.data.toList.take (posB 10 s.data.toList)))).toList = (⟨(Go.Lib.itoa (sumT m (s.extract (posB 32 (s.data.toList.take (posB 10 s.data.toList)) + 1) (posB 10 s.data.toList)))).toArray⟩ : ByteArray).toList then
        readGo n (s.extract (posB 10 s.data.toList + 1) s.size) (acc ++ [s.extract (posB 32 (s.data.toList.take (posB 10 s.data.toList)) + 1) (posB 10 s.data.toList)]) (sumT m (s.extract (posB 32 (s.data.toList.take (posB 10 s.data.toList)) + 1) (posB 10 s.data.toList)))
      else (acc, s)
    else (acc, s)
theorem itoa_some (t : Int) (h0 : 0 ≤ t) (h1 : t < 1000003) : strconv_Itoa.f t = some ⟨(Go.Lib.itoa t).toArray⟩ := by
  unfold strconv_Itoa.f
  rw [if_pos (by omega), if_pos (by omega)]
theorem sum_some (m : Int) (s : ByteArray) (h : s.size ≤ 1000000000000) : shop_Sum.f m s = some (sumT m s) := by
  unfold shop_Sum.f
  rw [if_pos h]
theorem ext_size_le (s : ByteArray) (a b : Nat) : (s.extract a b).size ≤ s.size := by
  rw [ByteArray.size_extract]; omega
theorem read_l_ends : ∀ (n : Nat) (s : ByteArray) (acc : List ByteArray) (m : Int), s.size ≤ 1000000000000 → acc.length + n = 60 → Ends (fun k => shop_Read.l0 k s acc m) (readGo n s acc m)
  | 0, s, acc, m, hs, h => by
    refine Ends.succ (g' := fun _ => some (acc, s)) (.val _) (fun k => by rw [shop_Read.l0, if_neg (by omega)])
  | n + 1, s, acc, m, hs, h => by
    have hl := toList_len s
    have hle := posB_le 10 s.data.toList
    refine Ends.succ ?_ (fun k => by rw [shop_Read.l0, if_pos (by omega)])
    rw [readGo]
    by_cases he : posB 10 s.data.toList = s.size
    · rw [if_pos he]
      refine Ends.bind (Ends.const (cut_none s 10 he)) ?_
      obtain ⟨r, hr⟩ := cut_any s 32 hs
      refine Ends.bind (Ends.const hr) ?_
      exact Ends.neg Bool.false_ne_true (.val _)
    · rw [if_neg he]
      generalize hee : posB 10 s.data.toList = e at *
      have hel : e < s.size := by omega
      have hcut := cut_some s 10 hs (by omega)
      rw [hee] at hcut
      refine Ends.bind (Ends.const hcut) ?_
      have hsz : (s.extract 0 e).size = e := by rw [ByteArray.size_extract]; omega
      have hll : (s.extract 0 e).data.toList = s.data.toList.take e := by rw [ext_list]; rfl
      have hle2 := posB_le 32 (s.data.toList.take e)
      have htk : (s.data.toList.take e).length = e := by rw [List.length_take]; omega
      by_cases hb : posB 32 (s.data.toList.take e) = e
      · rw [if_pos hb]
        refine Ends.bind (Ends.const (cut_none (s.extract 0 e) 32 (by rw [hll, hsz]; exact hb))) ?_
        exact Ends.pos rfl (Ends.neg Bool.false_ne_true (.val _))
      · rw [if_neg hb]
        have hcut2 := cut_some (s.extract 0 e) 32 (by omega) (by rw [hll, hsz]; omega)
        rw [hll, hsz] at hcut2
        generalize hbb : posB 32 (s.data.toList.take e) = b at *
        rw [ext_ext s e 0 b (by omega), ext_ext s e (b + 1) e (Nat.le_refl _)] at hcut2
        refine Ends.bind (Ends.const hcut2) ?_
        have htx := ext_size_le s (b + 1) e
        have hr := sumT_range m (s.extract (b + 1) e)
        refine Ends.pos rfl (Ends.pos rfl (Ends.bind (Ends.const (r := isOrderB (s.extract (b + 1) e)) rfl) ?_))
        by_cases ho : isOrderB (s.extract (b + 1) e) = true
        · rw [if_pos ho]
          refine Ends.pos ho (Ends.bind (Ends.const (sum_some m (s.extract (b + 1) e) (by omega))) (Ends.bind (Ends.const (itoa_some _ hr.1 hr.2)) ?_))
          by_cases hc : (s.extract 0 b).toList = (⟨(Go.Lib.itoa (sumT m (s.extract (b + 1) e))).toArray⟩ : ByteArray).toList
          · rw [if_pos hc]
            refine Ends.pos hc (Ends.bind (Ends.const (sum_some m (s.extract (b + 1) e) (by omega))) (Ends.pos (by omega) ?_))
            have hrs := ext_size_le s (e + 1) s.size
            exact read_l_ends n (s.extract (e + 1) s.size) (acc ++ [s.extract (b + 1) e]) (sumT m (s.extract (b + 1) e)) (by omega) (by simp only [List.length_append, List.length_singleton]; omega)
          · rw [if_neg hc]
            exact Ends.neg hc (.val _)
        · rw [if_neg ho]
          exact Ends.neg ho (.val _)
theorem read_ends (s : ByteArray) (hs : s.size ≤ 1000000000000) : Ends (fun k => shop_Read.f k s) (readGo 60 s [] 0) := by
  unfold shop_Read.f
  exact read_l_ends 60 s [] 0 hs rfl
section
variable (s : ByteArray) (acc : List ByteArray) (m : Int) (R : List ByteArray × ByteArray)
theorem l1_ends (hs : s.size ≤ 1000000000000) : ∀ (d i : Nat), i + d = s.size → Ends (fun k => mandrelref25_Read.j2 k s acc m ((i + posB 10 (s.data.toList.drop i) : Nat) : Int)) R → Ends (fun k => mandrelref25_Read.l1 k s acc m (i : Int)) R
  | 0, i, h, hj => by
    have hl := toList_len s
    refine Ends.succ ?_ (fun k => by rw [mandrelref25_Read.l1, if_neg (by omega)])
    rw [List.drop_eq_nil_of_le (by omega)] at hj
    exact hj
  | d + 1, i, h, hj => by
    have hl := toList_len s
    have hi : i < s.data.toList.length := by omega
    have hw : wrap64 ((i : Int) + 1) = ((i + 1 : Nat) : Int) := by unfold wrap64; omega
    have hb := bt_get s i hi
    refine Ends.succ ?_ (fun k => by rw [mandrelref25_Read.l1, if_pos (by omega), if_pos (by omega), hw, hb])
    rw [List.drop_eq_getElem_cons hi] at hj
    simp only [posB] at hj
    by_cases hc : s.data.toList[i] = 10
    · rw [if_pos hc] at hj
      rw [hc]
      exact Ends.pos rfl hj
    · rw [if_neg hc] at hj
      have hn : ¬ ((s.data.toList[i]).toNat : Int) = 10 := fun e => hc (UInt8.toNat_inj.1 (by
        have : (10 : UInt8).toNat = 10 := rfl
        omega))
      refine Ends.neg hn (l1_ends hs d (i + 1) (by omega) ?_)
      rw [show i + 1 + posB 10 (s.data.toList.drop (i + 1)) = i + (posB 10 (s.data.toList.drop (i + 1)) + 1) by omega]
      exact hj
theorem l2_ends (hs : s.size ≤ 1000000000000) (e : Nat) (he : e ≤ s.size) : ∀ (d i : Nat), i + d = e → Ends (fun k => mandrelref25_Read.j4 k s acc m (e : Int) ((i + posB 32 ((s.data.toList.take e).drop i) : Nat) : Int)) R → Ends (fun k => mandrelref25_Read.l2 k s acc m (e : Int) (i : Int)) R
  | 0, i, h, hj => by
    have hl := toList_len s
    refine Ends.succ ?_ (fun k => by rw [mandrelref25_Read.l2, if_neg (by omega)])
    rw [List.drop_eq_nil_of_le (by rw [List.length_take]; omega)] at hj
    exact hj
  | d + 1, i, h, hj => by
    have hl := toList_len s
    have hi : i < s.data.toList.length := by omega
    have hi2 : i < (s.data.toList.take e).length := by rw [List.length_take]; omega
    have hw : wrap64 ((i : Int) + 1) = ((i + 1 : Nat) : Int) := by unfold wrap64; omega
    have hb := bt_get s i hi
    have hg : (s.data.toList.take e)[i] = s.data.toList[i] := List.getElem_take
    refine Ends.succ ?_ (fun k => by rw [mandrelref25_Read.l2, if_pos (by omega), if_pos (by omega), if_pos (by omega), hw, hb])
    rw [List.drop_eq_getElem_cons hi2, hg] at hj
    simp only [posB] at hj
    by_cases hc : s.data.toList[i] = 32
    · rw [if_pos hc] at hj
      rw [hc]
      exact Ends.pos rfl hj
    · rw [if_neg hc] at hj
      have hn : ¬ ((s.data.toList[i]).toNat : Int) = 32 := fun e => hc (UInt8.toNat_inj.1 (by
        have : (32 : UInt8).toNat = 32 := rfl
        omega))
      refine Ends.neg hn (l2_ends hs e he d (i + 1) (by omega) ?_)
      rw [show i + 1 + posB 32 ((s.data.toList.take e).drop (i + 1)) = i + (posB 32 ((s.data.toList.take e).drop (i + 1)) + 1) by omega]
      exact hj
end
theorem refRead_l_ends : ∀ (n : Nat) (s : ByteArray) (acc : List ByteArray) (m : Int), s.size ≤ 1000000000000 → acc.length + n = 60 → Ends (fun k => mandrelref25_Read.l0 k s acc m) (readGo n s acc m)
  | 0, s, acc, m, hs, h => by
    refine Ends.succ (g' := fun _ => some (acc, s)) (.val _) (fun k => by rw [mandrelref25_Read.l0, if_neg (by omega)])
  | n + 1, s, acc, m, hs, h => by
    have hl := toList_len s
    have hle := posB_le 10 s.data.toList
    refine Ends.succ ?_ (fun k => by rw [mandrelref25_Read.l0, if_pos (by omega)])
    refine l1_ends s acc m _ hs s.size 0 (by omega) ?_
    rw [List.drop_zero, Nat.zero_add, readGo]
    by_cases he : posB 10 s.data.toList = s.size
    · rw [if_pos he, he]
      exact Ends.succ (g' := fun _ => some (acc, s)) (.val _) (fun k => by rw [mandrelref25_Read.j2, if_pos rfl])
    · rw [if_neg he]
      generalize hee : posB 10 s.data.toList = e at *
      clear hee
      have hel : e < s.size := by omega
      refine Ends.succ ?_ (fun k => by rw [mandrelref25_Read.j2, if_neg (by omega)])
      refine l2_ends s acc m _ hs e (by omega) e 0 (by omega) ?_
      rw [List.drop_zero, Nat.zero_add]
      have htk : (s.data.toList.take e).length = e := by rw [List.length_take]; omega
      have hle2 := posB_le 32 (s.data.toList.take e)
      by_cases hb : posB 32 (s.data.toList.take e) = e
      · rw [if_pos hb, hb]
        refine Ends.succ ?_ (fun k => by rw [mandrelref25_Read.j4, if_pos rfl])
        exact Ends.succ (g' := fun _ => some (acc, s)) (.val _) (fun k => by rw [mandrelref25_Read.j5, if_pos rfl])
      · rw [if_neg hb]
        generalize hbb : posB 32 (s.data.toList.take e) = b at *
        clear hbb
        have n1 : ¬ (b : Int) = (e : Int) := by omega
        have p1 : (0 : Int) ≤ ((b + 1 : Nat) : Int) := by omega
        have p2 : ((b + 1 : Nat) : Int) ≤ (e : Int) := by omega
        have p3 : (e : Int) ≤ (s.size : Int) := by omega
        have hw : wrap64 ((b : Int) + 1) = ((b + 1 : Nat) : Int) := by unfold wrap64; omega
        have hw2 : wrap64 ((e : Int) + 1) = ((e + 1 : Nat) : Int) := by unfold wrap64; omega
        have q1 : (0 : Int) ≤ (b : Int) := by omega
        have q2 : (b : Int) ≤ (s.size : Int) := by omega
        have q3 : acc.length < 8796093022208 := by omega
        have q4 : (0 : Int) ≤ ((e + 1 : Nat) : Int) := by omega
        have q5 : ((e + 1 : Nat) : Int) ≤ (s.size : Int) := by omega
        have q6 : (acc ++ [s.extract (b + 1) e]).length + n = 60 := by simp only [List.length_append, List.length_singleton]; omega
        have htx : (s.extract (b + 1) e).size ≤ 1000000000000 := Nat.le_trans (ext_size_le s (b + 1) e) hs
        have hrs : (s.extract (e + 1) s.size).size ≤ 1000000000000 := Nat.le_trans (ext_size_le s (e + 1) s.size) hs
        refine Ends.succ ?_ (fun k => by rw [mandrelref25_Read.j4, if_neg n1, hw, if_pos p1, if_pos p2, if_pos p3, Int.toNat_natCast, Int.toNat_natCast])
        refine (isLine_ends (s.extract (b + 1) e) htx).bind ?_
        by_cases ho : isOrderB (s.extract (b + 1) e) = true
        · rw [if_pos ho, ho]
          refine Ends.succ ?_ (fun k => by rw [mandrelref25_Read.j5, if_neg (by decide), hw, hw2, if_pos p1, if_pos p2, if_pos p3, Int.toNat_natCast, Int.toNat_natCast, Int.toNat_natCast, Int.toNat_natCast])
          have hr := sumT_range m (s.extract (b + 1) e)
          refine (refSum_ends m (s.extract (b + 1) e) htx).bind ((decimal_ends (sumT m (s.extract (b + 1) e)) (Int.le_trans (by decide) hr.1) (Int.le_of_lt (Int.lt_trans hr.2 (by decide)))).bind ?_)
          refine Ends.pos q1 (Ends.pos q2 ?_)
          by_cases hc : (s.extract 0 b).toList = (⟨(Go.Lib.itoa (sumT m (s.extract (b + 1) e))).toArray⟩ : ByteArray).toList
          · rw [if_pos hc]
            refine Ends.pos hc.symm (Ends.pos q3 (Ends.pos q4 (Ends.pos q5 ?_)))
            exact refRead_l_ends n (s.extract (e + 1) s.size) (acc ++ [s.extract (b + 1) e]) (sumT m (s.extract (b + 1) e)) hrs q6
          · rw [if_neg hc]
            exact Ends.neg (fun h => hc h.symm) (.val _)
        · rw [if_neg ho]
          have ho' : isOrderB (s.extract (b + 1) e) = false := by simpa using ho
          rw [ho']
          exact Ends.succ (g' := fun _ => some (acc, s)) (.val _) (fun k => by rw [mandrelref25_Read.j5, if_pos (by decide)])
theorem refRead_ends (s : ByteArray) (hs : s.size ≤ 1000000000000) : Ends (fun k => mandrelref25_Read.f k s) (readGo 60 s [] 0) := by
  unfold mandrelref25_Read.f
  exact refRead_l_ends 60 s [] 0 hs rfl
theorem ext_bytes (s : ByteArray) (a b : Nat) (l : List UInt8) (h : (s.extract a b).toList = (⟨l.toArray⟩ : ByteArray).toList) : (s.data.toList.take b).drop a = l := by
  rw [ByteArray.toList_eq, ByteArray.toList_eq, ext_list] at h
  simpa using h
theorem readGo_book : ∀ (n : Nat) (s : ByteArray) (acc : List ByteArray) (m : Int), ∃ new, (readGo n s acc m).1 = acc ++ new ∧ new.length ≤ n ∧ new.all isOrderB = true ∧ bookGo m new ++ (readGo n s acc m).2.data.toList = s.data.toList ∧ bulkT new ≤ s.size + 30 * n ∧ (readGo n s acc m).2.size ≤ s.size
  | 0, s, acc, m => ⟨[], by simp [readGo, bookGo, bulkT]⟩
  | n + 1, s, acc, m => by
    have stay : ∃ new, acc = acc ++ new ∧ new.length ≤ n + 1 ∧ new.all isOrderB = true ∧ bookGo m new ++ s.data.toList = s.data.toList ∧ bulkT new ≤ s.size + 30 * (n + 1) ∧ s.size ≤ s.size := ⟨[], by simp [bookGo, bulkT]⟩
    have hl := toList_len s
    have hle := posB_le 10 s.data.toList
    rw [readGo]
    split
    · exact stay
    rename_i he
    split
    · exact stay
    rename_i hb
    split
    · rename_i ho
      split
      · rename_i hc
        have hsp := posB_split 10 s.data.toList (by omega)
        have htk : (s.data.toList.take (posB 10 s.data.toList)).length = posB 10 s.data.toList := by rw [List.length_take]; omega
        have hle2 := posB_le 32 (s.data.toList.take (posB 10 s.data.toList))
        have hsp2 := posB_split 32 (s.data.toList.take (posB 10 s.data.toList)) (by omega)
        generalize posB 10 s.data.toList = e at *
        generalize posB 32 (s.data.toList.take e) = b at *
        have hnum := ext_bytes s 0 b _ hc
        rw [List.drop_zero] at hnum
        have htx : (s.extract (b + 1) e).data.toList = (s.data.toList.take e).drop (b + 1) := ext_list s (b + 1) e
        have hrest : (s.extract (e + 1) s.size).data.toList = s.data.toList.drop (e + 1) := by
          rw [ext_list, List.take_of_length_le (by omega)]
        obtain ⟨new, h1, h2, h3, h4, h5, h6⟩ := readGo_book n (s.extract (e + 1) s.size) (acc ++ [s.extract (b + 1) e]) (sumT m (s.extract (b + 1) e))
        have hs1 : (s.extract (b + 1) e).size = e - (b + 1) := by rw [ByteArray.size_extract]; omega
        have hs2 : (s.extract (e + 1) s.size).size = s.size - (e + 1) := by rw [ByteArray.size_extract]; omega
        refine ⟨s.extract (b + 1) e :: new, by rw [h1]; simp, by simp only [List.length_cons]; omega, by simp [ho, h3], ?_, ?_, by omega⟩
        · rw [bookGo, List.append_assoc, h4, hrest, lineT, htx, ← hnum]
          have e1 : (s.data.toList.take e).take b = s.data.toList.take b := by rw [List.take_take]; congr 1; omega
          rw [e1] at hsp2
          have e2 : s.data.toList.take b ++ (32 :: ((s.data.toList.take e).drop (b + 1) ++ [10])) ++ s.data.toList.drop (e + 1) = (s.data.toList.take b ++ 32 :: (s.data.toList.take e).drop (b + 1)) ++ 10 :: s.data.toList.drop (e + 1) := by simp
          rw [e2, ← hsp2, ← hsp]
        · simp only [bulkT]
          omega
      · exact stay
    · exact stay
theorem read_book (s : ByteArray) : (readGo 60 s [] 0).1.length ≤ 60 ∧ (readGo 60 s [] 0).1.all isOrderB = true ∧ bookT (readGo 60 s [] 0).1 ++ (readGo 60 s [] 0).2.data.toList = s.data.toList ∧ bulkT (readGo 60 s [] 0).1 ≤ s.size + 1800 ∧ (readGo 60 s [] 0).2.size ≤ s.size := by
  obtain ⟨new, h1, h2, h3, h4, h5, h6⟩ := readGo_book 60 s [] 0
  rw [List.nil_append] at h1
  rw [h1]
  exact ⟨h2, h3, h4, by omega, h6⟩
end Go.Proofs.ZzShop.Q
end
section
namespace Go.Proofs.ZzShop.Q
open Go.RowKit Go.Proofs.ZzShopW.PrintWords Go.Proofs.ZzShopW.PrintLast Go.Proofs.ZzShopW.PrintMore Go.Proofs.GreatGiven
set_option linter.unusedVariables false
set_option linter.unusedSimpArgs false
theorem texts_l_ends (l : List ByteArray) (hl : l.length ≤ 1000000000000) : ∀ (d i : Nat), i + d = l.length → Ends (fun k => mandrellaw25_texts.l0 k l l (i : Int)) true
  | 0, i, h => Ends.succ (g' := fun _ => some true) (.val _) (fun k => by rw [mandrellaw25_texts.l0, if_neg (by omega)])
  | d + 1, i, h => by
    have hw : wrap64 ((i : Int) + 1) = ((i + 1 : Nat) : Int) := by unfold wrap64; omega
    refine Ends.succ ?_ (fun k => by rw [mandrellaw25_texts.l0, if_pos (by omega), if_pos (by omega), if_pos (by omega), if_pos rfl, hw])
    exact texts_l_ends l hl d (i + 1) (by omega)
theorem texts_ends (l : List ByteArray) (hl : l.length ≤ 1000000000000) : Ends (fun k => mandrellaw25_texts.f k l l) true := by
  unfold mandrellaw25_texts.f
  refine Ends.pos rfl ?_
  have := texts_l_ends l hl l.length 0 (by omega)
  simpa using this
theorem bne_self (l : List UInt8) : (l != l) = false := by simp
theorem reads_true (s : ByteArray) : ∃ k, mandrellaw25_ShopReads.f k s = some true := by
  have key : Ends (fun k => mandrellaw25_ShopReads.f k s) true := by
    unfold mandrellaw25_ShopReads.f
    by_cases h : (s.size : Int) > 40000
    · exact Ends.pos h (.val _)
    · refine Ends.neg h ?_
      have hs : s.size ≤ 1000000000000 := by omega
      obtain ⟨h1, h2, h3, h4, h5⟩ := read_book s
      refine (read_ends s hs).bind ((refRead_ends s hs).bind ?_)
      generalize readGo 60 s [] 0 = R at h1 h2 h3 h4 h5 ⊢
      obtain ⟨a, r⟩ := R
      dsimp only at h1 h2 h3 h4 h5 ⊢
      refine (texts_ends a (by omega)).bind (Ends.pos rfl ?_)
      rw [bne_self]
      refine Ends.succ ?_ (fun k => by rw [mandrellaw25_ShopReads.j0, if_neg (by decide), write_some a (by omega)])
      have hw : writeT a = (⟨(bookT a).toArray⟩, 0) := by
        unfold writeT
        have h1' : ¬ 60 < a.length := by have : a.length ≤ 60 := h1; omega
        rw [if_neg h1', if_pos (show allOrder a = true from h2)]
      rw [hw]
      refine Ends.bind (Ends.const rfl) (Ends.pos rfl ?_)
      have hlen : (bookT a).length ≤ bulkT a := bookGo_len a 0
      have hbs : (⟨(bookT a).toArray⟩ : ByteArray).size = (bookT a).length := rfl
      have h5' : r.size ≤ s.size := h5
      have h4' : bulkT a ≤ s.size + 1800 := h4
      refine Ends.pos ?_ (Ends.pos ?_ (.val _))
      · show (⟨(bookT a).toArray⟩ : ByteArray).size + r.size ≤ 9223372036854775807
        omega
      · show ((⟨(bookT a).toArray⟩ : ByteArray) ++ r).toList = s.toList
        rw [ByteArray.toList_eq, ByteArray.toList_eq, ByteArray.data_append, Array.toList_append]
        exact h3
  obtain ⟨k, hk⟩ := key
  exact ⟨k, hk k (Nat.le_refl _)⟩
def mergeAt : Nat → ByteArray → ByteArray → List ByteArray → List ByteArray → Nat → ByteArray × Int × Int
  | 0, a, b, x, y, _ => if (y.length : Int) > (x.length : Int) then (b, (y.length : Int), 0) else (a, (x.length : Int), 0)
  | d + 1, a, b, x, y, i => if (rdOf ByteArray.empty x (i : Int)).toList = (rdOf ByteArray.empty y (i : Int)).toList then mergeAt d a b x y (i + 1) else (⟨#[]⟩, (i : Int), 8)
theorem merge_l_ends (a b : ByteArray) (x y : List ByteArray) (hx : x.length ≤ 1000000000000) : ∀ (d i : Nat), i + d = min x.length y.length → Ends (fun k => shop_Merge.l0 k a b x y ((min x.length y.length : Nat) : Int) (i : Int)) (mergeAt d a b x y i)
  | 0, i, h => by
    refine Ends.succ ?_ (fun k => by rw [shop_Merge.l0, if_neg (by omega)])
    rw [mergeAt]
    by_cases hc : (y.length : Int) > (x.length : Int)
    · simp only [if_pos hc]; exact .val _
    · simp only [if_neg hc]; exact .val _
  | d + 1, i, h => by
    have hw : wrap64 ((i : Int) + 1) = ((i + 1 : Nat) : Int) := by unfold wrap64; omega
    refine Ends.succ ?_ (fun k => by rw [shop_Merge.l0, if_pos (by omega), if_pos (by omega), if_pos (by omega), if_pos (by omega), hw])
    rw [mergeAt]
    by_cases hc : (rdOf ByteArray.empty x (i : Int)).toList = (rdOf ByteArray.empty y (i : Int)).toList
    · rw [if_pos hc]; exact Ends.pos hc (merge_l_ends a b x y hx d (i + 1) (by omega))
    · rw [if_neg hc]; exact Ends.neg hc (.val _)
theorem refMerge_j_ends (a b : ByteArray) (x y : List ByteArray) (i : Int) : Ends (fun k => mandrelref25_Merge.j2 k a b x y i false) (if (y.length : Int) > (x.length : Int) then (b, (y.length : Int), 0) else (a, (x.length : Int), 0)) := by
  refine Ends.succ ?_ (fun k => by rw [mandrelref25_Merge.j2, if_neg (by decide)])
  by_cases hc : (y.length : Int) > (x.length : Int)
  · simp only [if_pos hc]; exact .val _
  · simp only [if_neg hc]; exact .val _
theorem refMerge_l_ends (a b : ByteArray) (x y : List ByteArray) (hx : x.length ≤ 1000000000000) : ∀ (d i : Nat), i + d = min x.length y.length → Ends (fun k => mandrelref25_Merge.l0 k a b x y (i : Int)) (mergeAt d a b x y i)
  | 0, i, h => by
    rw [mergeAt]
    by_cases hc : (i : Int) < (x.length : Int)
    · refine Ends.succ ?_ (fun k => by rw [mandrelref25_Merge.l0, if_pos hc, decide_eq_false (by omega : ¬ (i : Int) < (y.length : Int))])
      exact refMerge_j_ends a b x y i
    · refine Ends.succ ?_ (fun k => by rw [mandrelref25_Merge.l0, if_neg hc])
      exact refMerge_j_ends a b x y i
  | d + 1, i, h => by
    have hw : wrap64 ((i : Int) + 1) = ((i + 1 : Nat) : Int) := by unfold wrap64; omega
    refine Ends.succ ?_ (fun k => by rw [mandrelref25_Merge.l0, if_pos (by omega), decide_eq_true (by omega : (i : Int) < (y.length : Int))])
    refine Ends.succ ?_ (fun k => by rw [mandrelref25_Merge.j2, if_pos rfl, if_pos (by omega), if_pos (by omega), if_pos (by omega), hw])
    rw [mergeAt]
    by_cases hc : (rdOf ByteArray.empty x (i : Int)).toList = (rdOf ByteArray.empty y (i : Int)).toList
    · rw [if_pos hc]; exact Ends.pos hc (refMerge_l_ends a b x y hx d (i + 1) (by omega))
    · rw [if_neg hc]; exact Ends.neg hc (.val _)
theorem mn_min (x y : List ByteArray) : mn (x.length : Int) (y.length : Int) = ((min x.length y.length : Nat) : Int) := by
  unfold mn
  split <;> omega
def mergeT (a b : ByteArray) : ByteArray × Int × Int :=
  if (readGo 60 a [] 0).2.toList = [] then
    if (readGo 60 b [] 0).2.toList = [] then mergeAt (min (readGo 60 a [] 0).1.length (readGo 60 b [] 0).1.length) a b (readGo 60 a [] 0).1 (readGo 60 b [] 0).1 0 else (⟨#[]⟩, 0, 11)
  else (⟨#[]⟩, 0, 11)
theorem merge_ends (a b : ByteArray) (ha : a.size ≤ 1000000000000) (hb : b.size ≤ 1000000000000) : Ends (fun k => shop_Merge.f k a b) (mergeT a b) := by
  unfold shop_Merge.f mergeT
  have hx := (read_book a).1
  refine (read_ends a ha).bind ((read_ends b hb).bind ?_)
  generalize readGo 60 a [] 0 = R at hx ⊢
  generalize readGo 60 b [] 0 = S
  by_cases h1 : R.2.toList = []
  · rw [if_pos h1]
    refine Ends.pos h1 ?_
    by_cases h2 : S.2.toList = []
    · rw [if_pos h2, h2, bne_self]
      refine Ends.succ ?_ (fun k => by rw [shop_Merge.j0, if_neg (by decide), mn_min])
      have := merge_l_ends a b R.1 S.1 (by omega) (min R.1.length S.1.length) 0 (by omega)
      exact this
    · rw [if_neg h2, bne_iff_ne.2 h2]
      exact Ends.succ (g' := fun _ => some (⟨#[]⟩, 0, 11)) (.val _) (fun k => by rw [shop_Merge.j0, if_pos rfl])
  · rw [if_neg h1]
    refine Ends.neg h1 ?_
    exact Ends.succ (g' := fun _ => some (⟨#[]⟩, 0, 11)) (.val _) (fun k => by rw [shop_Merge.j0, if_pos rfl])
theorem refMerge_ends (a b : ByteArray) (ha : a.size ≤ 1000000000000) (hb : b.size ≤ 1000000000000) : Ends (fun k => mandrelref25_Merge.f k a b) (mergeT a b) := by
  unfold mandrelref25_Merge.f mergeT
  have hx := (read_book a).1
  refine (refRead_ends a ha).bind ((refRead_ends b hb).bind ?_)
  generalize readGo 60 a [] 0 = R at hx ⊢
  generalize readGo 60 b [] 0 = S
  by_cases h1 : R.2.toList = []
  · rw [if_pos h1]
    refine Ends.pos h1 ?_
    by_cases h2 : S.2.toList = []
    · rw [if_pos h2, h2, bne_self]
      refine Ends.succ ?_ (fun k => by rw [mandrelref25_Merge.j0, if_neg (by decide)])
      have := refMerge_l_ends a b R.1 S.1 (by omega) (min R.1.length S.1.length) 0 (by omega)
      exact this
    · rw [if_neg h2, bne_iff_ne.2 h2]
      exact Ends.succ (g' := fun _ => some (⟨#[]⟩, 0, 11)) (.val _) (fun k => by rw [mandrelref25_Merge.j0, if_pos rfl])
  · rw [if_neg h1]
    refine Ends.neg h1 ?_
    exact Ends.succ (g' := fun _ => some (⟨#[]⟩, 0, 11)) (.val _) (fun k => by rw [mandrelref25_Merge.j0, if_pos rfl])
theorem merges_true (a b : ByteArray) : ∃ k, mandrellaw25_ShopMerges.f k a b = some true := by
  have hjt : Ends (fun k => mandrellaw25_ShopMerges.j0 k a b true) true := Ends.succ (g' := fun _ => some true) (.val _) (fun k => by rw [mandrellaw25_ShopMerges.j0, if_pos rfl]; rfl)
  have hjf : a.size ≤ 1000000000000 → b.size ≤ 1000000000000 → Ends (fun k => mandrellaw25_ShopMerges.j0 k a b false) true := by
    intro ha hb
    refine Ends.succ ?_ (fun k => by rw [mandrellaw25_ShopMerges.j0, if_neg (by decide)])
    exact (merge_ends a b ha hb).bind ((refMerge_ends a b ha hb).bind (Ends.pos rfl (Ends.pos rfl (Ends.pos rfl (.val _)))))
  have key : Ends (fun k => mandrellaw25_ShopMerges.f k a b) true := by
    unfold mandrellaw25_ShopMerges.f
    by_cases h : (a.size : Int) > 40000
    · exact Ends.pos h hjt
    · refine Ends.neg h ?_
      by_cases h2 : (b.size : Int) > 40000
      · rw [decide_eq_true h2]
        exact hjt
      · rw [decide_eq_false h2]
        exact hjf (by omega) (by omega)
  obtain ⟨k, hk⟩ := key
  exact ⟨k, hk k (Nat.le_refl _)⟩
end Go.Proofs.ZzShop.Q
end
