/- Contracts of the functions that are taken as given in the walks. -/
import Derived.Test.YtgliaoanlhbepaaGreatDoorK2
import Derived.Below
import Derived.Deep.Draws
import Derived.Deep.AppendLies
import Derived.Maps.AppendAt
import Derived.OwnWalk
import Derived.Laws.BytesArg
import Derived.Laws.MakeOwn
import Derived.Laws.OwnMore
import Derived.Deep.OwnRows
import Derived.Tactics
import Derived.Lib.ConvBytes
import Derived.Laws.Slices
import Derived.WalkKit
import Derived.KernelRfl
import Derived.RowKit3
import Derived.Deep.LoopGhost
import Derived.Deep.QuietTactic
import Derived.BigQuiet
import Derived.WideLaws
import Derived.Deep.DeepCutAuto
import Derived.Deep.CutBlock
import Derived.Deep.RegionHeld3
import Derived.Laws.Rows
import Derived.Lib.AppendStr
import Derived.ArgAppend
import Derived.Laws.IdiomCopy
import Derived.OrdersHeld
import Derived.Laws.BitsLemmas
import Derived.RowKit
import Derived.Test.YtgliaoanlhbepaaGreatDoorW1
import Derived.Test.YtgliaoanlhbepaaGreatDoorS1
import Derived.Lib.SmallJoins
import Derived.Test.YtgliaoanlhbepaaGreatDoorK3
section
namespace Go.Proofs.fM
open Go Go.Ai Go.RowKit Go.Proofs.bT.eG Go.Proofs.bT.iM Go.Proofs.bT.jd
set_option linter.unusedVariables false
set_option linter.unusedSimpArgs false
def QS : List Int := [0, 0, 0, 0, 0, 0, 0, 0, 0, 0, 1, 0, 0, 0, 0, 0, 0, 0, 0, 0, 0, 0, 0, 0, 0, 0, 0, 0, 0, 0, 0, 0, 1, 0, 0, 0, 0, 0, 0, 0, 0, 0, 0, 0, 0, 0, 0, 0, 3, 3, 3, 3, 3, 3, 3, 3, 3, 3, 0, 0, 0, 0, 0, 0, 0, 2, 2, 2, 2, 2, 2, 2, 2, 2, 2, 2, 2, 2, 2, 2, 2, 2, 2, 2, 2, 2, 2, 2, 2, 2, 2, 0, 0, 0, 0, 2, 0, 2, 2, 2, 2, 2, 2, 2, 2, 2, 2, 2, 2, 2, 2, 2, 2, 2, 2, 2, 2, 2, 2, 2, 2, 2, 2, 0, 0, 0, 0, 0, 0, 0, 0, 0, 0, 0, 0, 0, 0, 0, 0, 0, 0, 0, 0, 0, 0, 0, 0, 0, 0, 0, 0, 0, 0, 0, 0, 0, 0, 0, 0, 0, 0, 0, 0, 0, 0, 0, 0, 0, 0, 0, 0, 0, 0, 0, 0, 0, 0, 0, 0, 0, 0, 0, 0, 0, 0, 0, 0, 0, 0, 0, 0, 0, 0, 0, 0, 0, 0, 0, 0, 0, 0, 0, 0, 0, 0, 0, 0, 0, 0, 0, 0, 0, 0, 0, 0, 0, 0, 0, 0, 0, 0, 0, 0, 0, 0, 0, 0, 0, 0, 0, 0, 0, 0, 0, 0, 0, 0, 0, 0, 0, 0, 0, 0, 0, 0, 0, 0, 0, 0, 0, 0, 0, 0, 0, 0, 0]
def mH (n : Int) : Int := QS.getD n.toNat 0
def oO (s : ByteArray) : Nat → Int → Option Int
 | 0, _ => none
 | k + 1, n => if n < (s.size : Int) then (if 0 ≤ n then (if 2 ≤ mH (bt s n) then oO s k (wrap64 (n + 1)) else some n) else none) else some n
set_option maxHeartbeats 8000000 in
set_option maxRecDepth 100000 in
theorem X7 (k : Nat) (b o : Nat) (a1 : ByteArray) (r : Int) (w : World) (hcls : ∀ i : Nat, i < 256 → w.cell? ⟨b, o + i, none⟩ = some (.int .u8 (mH i))) (h : oO a1 k 0 = some r) :
 Calls Tryz.prog 144 #[.pointer (some ⟨b, o, none⟩), .string a1] w fun e w' => e = .returned (.int .i64 r) ∧ bB w w' := by
 have HC := bI.mk hcls
 clear hcls
 have X8 := Tryz.underlying152
 have X9 := Tryz.underlying151
 have X_ := Tryz.underlying155
 have Ya := Tryz.underlying5
 have H' := bI.mk h
 clear h
 go_enter Tryz.func144, Tryz.ntmps144
 go_wp2
 go_loopg [5] k (fun kq v5 w' => ∃ (n : Int), v5 = .int .i64 n ∧ bI (oO a1 kq n = some r) ∧ bI (kq ≤ k) ∧ bB w w')
 case atStart => exact ⟨(0), (by first | rfl | (simp; done) | (simp [*]; done)), H', ⟨Nat.le_refl _⟩, by repeat (first | exact bB.refl _ | apply bB.step)⟩
 case round =>
  clear H'
  try clear p2
  obtain ⟨n, rfl, HA, eu, ⟨m1, rfl⟩⟩ := hrel
  cases gk with
  | zero => exact absurd HA.out (by simp [oO])
  | succ k1 =>
   have H := HA.out
   clear HA
   simp only [oO] at H
   by_cases c3 : n < (a1.size : Int)
   ·rw [if_pos c3] at H
    have gH : decide (n < (a1.size : Int)) = true := decide_eq_true c3
    by_cases hn0 : 0 ≤ n
    case neg => rw [if_neg hn0] at H; exact absurd H (by simp)
    rw [if_pos hn0] at H
    have p5 : 0 ≤ n := hn0
    have q5 : n.toNat < a1.size := by omega
    have hx5 : ∀ h : n.toNat < a1.size, ((a1[n.toNat]'h).toNat : Int) = bt a1 n := gQ a1 n
    have hbt : 0 ≤ bt a1 n ∧ bt a1 n < 256 := by rw [← hx5 q5]; have := (a1[n.toNat]'q5).toNat_lt; omega
    have hcell : w.cell? ⟨b, o + (bt a1 n).toNat, none⟩ = some (.int .u8 (mH (bt a1 n))) := by
     have := HC.out (bt a1 n).toNat (by omega)
     rw [Int.toNat_of_nonneg hbt.1] at this
     exact this
    have Yb : (n < (a1.size : Int)) = True := eq_true c3
    have hidx : ((QS.length : Nat)) = 256 := rfl
    have q6 : (0 ≤ bt a1 n) = True := eq_true hbt.1
    have q7 : (bt a1 n < 256) = True := eq_true hbt.2
    clear c3 HC
    have HB := bI.mk hbt
    clear hbt hidx
    by_cases c4 : 2 ≤ mH (bt a1 n)
    ·rw [if_pos c4] at H
     have fJ : decide (mH (bt a1 n) ≥ 2) = true := decide_eq_true c4
     clear c4
     have H' := bI.mk H
     clear H
     replace q5 := eq_true q5
     try go_wp2
     repeat (go_quiet (fail); try go_wp2)
     go_roundg k1
     case measure => have := eu.out; omega
     case rel => exact ⟨wrap64 (n + 1), (by first | rfl | (simp; done) | (simp [*]; done)), H', ⟨by have := eu.out; omega⟩, by repeat (first | exact bB.refl _ | apply bB.step)⟩
    ·rw [if_neg c4] at H
     have fJ : decide (mH (bt a1 n) ≥ 2) = false := decide_eq_false c4
     clear c4
     obtain rfl := Option.some.inj H
     replace q5 := eq_true q5
     try go_wp2
     repeat (go_quiet (fail); try go_wp2)
     go_ret
     exact ⟨by first | rfl | (simp; done) | (simp [*]; done), by repeat (first | exact bB.refl _ | apply bB.step)⟩
   ·rw [if_neg c3] at H
    have gH : decide (n < (a1.size : Int)) = false := decide_eq_false c3
    clear c3
    obtain rfl := Option.some.inj H
    try go_wp2
    repeat (go_quiet (fail); try go_wp2)
    go_ret
    exact ⟨by first | rfl | (simp; done) | (simp [*]; done), by repeat (first | exact bB.refl _ | apply bB.step)⟩
theorem Below.Yc {w w' : World} (h : Ai.Grown w w') : Below w.heap.size w w' := ⟨h.os, h.tape, h.output, h.size, h.keep⟩
noncomputable def TN : aX := { T1 with gl := fun _ => none }
theorem Yd : TN.ti = T1.ti := by unfold TN; kernel_rfl
theorem Ye : TN.eqv = T1.eqv := by unfold TN; kernel_rfl
theorem Yf : TN.fn = T1.fn := by unfold TN; kernel_rfl
theorem Yg : TN.oJ = T1.oJ := by unfold TN; kernel_rfl
theorem QT : dM Tryz.prog TN := by
 refine dM.mk ?_ ?_ ?_ ?_ K3
 ·rw [Yd]; exact yM.ti
 ·rw [Ye]; exact yM.eqv
 ·rw [Yf]; exact yM.fn
 ·rw [Yg]; exact yM.oJ
noncomputable def EN : Ev := wM K4 TN 300
theorem Yh : kE Tryz.prog TN EN := Dv QT QU 300
theorem Yi : sI EN 78 [] (.agg pV) = true := by kernel_rfl
end Go.Proofs.fM
end
section
namespace Go.Proofs.fM
open Go Go.Ai Go.RowKit Go.Proofs.bT.eG Go.Proofs.bT.iM Go.Proofs.bT.jd
set_option linter.unusedVariables false
set_option linter.unusedSimpArgs false
theorem Yj : Di Tryz.prog TN 78 [] (.agg pV) := by
 obtain ⟨s', h⟩ := Gi Yi
 exact KY Yh h (fun _ => trivial) QV
theorem Yk : Br Tryz.prog TN yN := by
 intro f args v h
 unfold yN at h
 split at h
 case h_2 => cases h
 rename_i hf
 split at h
 case h_2 => cases h
 cases h
 rw [Nat.eq_of_beq_eq_true hf]
 exact Yj
noncomputable def EC : Ev := wM yN TN 300
theorem Yl : kE Tryz.prog TN EC := Dv QT Yk 300
noncomputable def Gj (l : List UInt8) : Tr AV := Tr.set 12 (Tr.set 12 .leaf 0 (some (.str l))) 2 (some (.bool false))
noncomputable def QW : Option Code → Code
 | some (.seq _ (.seq b _)) => b
 | _ => .skip
noncomputable def QX (l : List UInt8) : Option (List Out) := EC.code (QW Tryz.f132.body) 21 none (Gj l) [] ⟨.leaf, 0⟩
noncomputable def Dx (l : List UInt8) : Tr AV × St := match QX l with
 | some [⟨_, ts, _, s⟩] => (ts, s)
 | _ => (.leaf, ⟨.leaf, 0⟩)
theorem Ym (l : List UInt8) : QX l = some [⟨.normal, (Dx l).1, [], (Dx l).2⟩] := by kernel_rfl
theorem Yn (l : List UInt8) : (Dx l).2.get 0 = some (.cells pV 1 true false) := by kernel_rfl
theorem Yo (l : List UInt8) (σ : Nat → Ai.Loc) : acts σ 21 (Gj l) (eU σ []) = { tmps := #[.string ⟨⟨l⟩⟩, undef, .bool false, undef, undef, undef, undef, undef, undef, undef, undef, undef, undef, undef, undef, undef, undef, undef, undef, undef, undef], defers := [] } := by kernel_rfl
theorem Yp (l : List UInt8) (σ : Nat → Ai.Loc) : acts σ 21 (Dx l).1 (eU σ []) = { tmps := #[.string ⟨⟨l⟩⟩, undef, .bool false, .pointer (some ⟨(σ 0).block, (σ 0).off, none⟩), aT σ (.agg pV), undef, undef, undef, undef, undef, undef, undef, undef, undef, undef, undef, undef, undef, undef, undef, undef], defers := [] } := by kernel_rfl
theorem Yq (i : Nat) (hi : i < 256) : pV[i]? = some (.int .u8 (mH i)) := by
 have h : ∀ i : Fin 256, pV[i.val]? = some (.int .u8 (mH i.val)) := by
  have : (List.range 256).all (fun i => match pV[i]? with | some (.int .u8 n) => wJ n (mH i) | _ => false) = true := by kernel_rfl
  intro i
  have := List.all_eq_true.1 this i.val (List.mem_range.2 i.isLt)
  split at this
  ·rename_i n hn
   rw [Dr, beq_iff_eq] at this
   rw [hn, this]
  ·cases this
 exact h ⟨i, hi⟩
theorem Yr (l : List UInt8) {D : Nat → Prop} : fD D (Gj l) := by
 have h1 : jX 21 (some 0) (.str l) .leaf = some (Tr.set 12 .leaf 0 (some (.str l))) := rfl
 have h2 : jX 21 (some 2) (.bool false) (Tr.set 12 .leaf 0 (some (.str l))) = some (Gj l) := rfl
 exact CF h2 (CF h1 Jt trivial) trivial
theorem Yt (l : List UInt8) : bV (Dx l).1 3 = .ptr 0 0 := by kernel_rfl
theorem Yu {D : Nat → Prop} {ts : Tr AV} {t n o : Nat} (h : fD D ts) (e : bV ts t = .ptr n o) : D n := by
 have := xQ h t
 rw [e] at this
 simpa [AV.cl] using this
theorem Yv (l : List UInt8) (w : World) : (QW Tryz.f132.body).wp Tryz.prog (fun e a w' => ∃ (b o : Nat) (x : Value), e = .normal ∧ w.heap.size ≤ b ∧ a = { tmps := #[.string ⟨⟨l⟩⟩, undef, .bool false, .pointer (some ⟨b, o, none⟩), x, undef, undef, undef, undef, undef, undef, undef, undef, undef, undef, undef, undef, undef, undef, undef, undef], defers := [] } ∧
 (∀ i : Nat, i < 256 → w'.cell? ⟨b, o + i, none⟩ = some (.int .u8 (mH i))) ∧ Below w.heap.size w w')
 { tmps := #[.string ⟨⟨l⟩⟩, undef, .bool false, undef, undef, undef, undef, undef, undef, undef, undef, undef, undef, undef, undef, undef, undef, undef, undef, undef, undef], defers := [] } w := by
 have h := Yl.code _ _ _ _ _ _ _ (Ym l) (fun _ => False) (fun _ => ⟨0, 0, 0⟩) w (HR.empty (fun g c hg => by cases hg) _) (Yr l) (by intro d hd; cases hd) (by intro m hm; cases hm)
 rw [Yo] at h
 have h := wpIn_wide.1 h
 refine wp_mono h ?_
 rintro e a w' ⟨o, ho, D', σ', h1, h2, h3, h4, h5, _, _⟩
 simp only [List.mem_singleton] at ho
 subst ho
 simp only at h1 h2 h3 h5
 have hD : D' 0 := Yu h5 (Yt l)
 have h2' := Eq.trans h2 (Yp l σ')
 refine ⟨(σ' 0).block, (σ' 0).off, _, h1, ?_, h2', fun i hi => ?_, ⟨h4.os, h4.tape, h4.output, h4.size, fun k hk => h4.keep k hk (fun _ h => h.elim)⟩⟩
 ·rcases h4.fresh 0 hD with h | h | ⟨m, h, _⟩
  ·exact h.elim
  ·exact h
  ·exact h.elim
 ·exact (HR.load h3 hD (Yn l) (Yq i hi)).1
def yO (k : Nat) (s : ByteArray) : Option Bool :=
 if s.toList = [] then some false else if mH (bt s 0) = 2 then (oO s k 0).bind fun n => some (n == (s.size : Int)) else some false
set_option maxHeartbeats 8000000 in
set_option maxRecDepth 100000 in
theorem Yw (k : Nat) (a0 : ByteArray) (r : Bool) (w : World) (h : yO k a0 = some r) :
 Calls Tryz.prog 132 #[.string a0] w fun e w' => e = .returned (.bool r) ∧ Below w.heap.size w w' := by
 have H := bI.mk h
 clear h
 go_enter Tryz.func132, Tryz.ntmps132
 obtain ⟨⟨l⟩⟩ := a0
 go_upto_region 1 with (fail)
 refine wp_mono (Yv l w) ?_
 rintro e a w1 ⟨b, o, x, rfl, hb, rfl, hc, hB⟩
 generalize hA : (⟨⟨l⟩⟩ : ByteArray) = a0 at H ⊢
 clear hA l
 have HC := bI.mk hc
 clear hc
 have HB := bI.mk hB
 clear hB
 have X8 := Tryz.underlying152
 have X9 := Tryz.underlying151
 have X_ := Tryz.underlying155
 have Ya := Tryz.underlying5
 have H := H.out
 unfold yO at H
 by_cases c1 : a0.toList = []
 ·rw [if_pos c1] at H
  obtain rfl := Option.some.inj H
  have Yx : (!a0.toList.isEmpty) = false := by rw [c1]; rfl
  go_wp2
  go_ret
  exact ⟨rfl, HB.out⟩
 ·rw [if_neg c1] at H
  have Yx : (!a0.toList.isEmpty) = true := by
   cases hl : a0.toList with
   | nil => exact absurd hl c1
   | cons x r => rfl
  have hsz : 0 < a0.size := by
   rcases Nat.eq_zero_or_pos a0.size with h0 | h0
   ·exact absurd (by rw [ByteArray.toList_eq]; exact List.eq_nil_of_length_eq_zero (by rw [Array.length_toList]; exact h0)) c1
   ·exact h0
  have hx5 : ∀ h : 0 < a0.size, ((a0[0]'h).toNat : Int) = bt a0 0 := gQ a0 0
  have hbt : 0 ≤ bt a0 0 ∧ bt a0 0 < 256 := by rw [← hx5 hsz]; have := (a0[0]'hsz).toNat_lt; omega
  have hcell : w1.cell? ⟨b, o + (bt a0 0).toNat, none⟩ = some (.int .u8 (mH (bt a0 0))) := by
   have := HC.out (bt a0 0).toNat (by omega)
   rw [Int.toNat_of_nonneg hbt.1] at this
   exact this
  have Yb : (0 < (a0.size : Int)) = True := eq_true (by omega)
  have q6 : (0 ≤ bt a0 0) = True := eq_true hbt.1
  have q7 : (bt a0 0 < 256) = True := eq_true hbt.2
  have q5 := eq_true hsz
  have HS := bI.mk hsz
  clear hsz hbt
  by_cases c2 : mH (bt a0 0) = 2
  ·rw [if_pos c2] at H
   have iN : (mH (bt a0 0) == 2) = true := beq_iff_eq.mpr c2
   clear c2
   replace H := Option.bind_eq_some_iff.mp H
   obtain ⟨n, hn, H⟩ := H
   have HN := bI.mk hn
   clear hn
   obtain rfl := Option.some.inj H
   clear H
   go_wp2_with (go_at_call 144; (with_reducible refine (X7 k b o a0 n _ ?dB HN.out).mono ?_); (case dB => exact HC.out); rintro e w' ⟨rfl, ⟨nd, rfl⟩⟩)
   go_ret
   exact ⟨rfl, by repeat (first | exact HB.out | apply lF | apply lZ)⟩
  ·rw [if_neg c2] at H
   have iN : (mH (bt a0 0) == 2) = false := beq_eq_false_iff_ne.mpr c2
   clear c2
   obtain rfl := Option.some.inj H
   go_wp2
   go_ret
   exact ⟨rfl, by repeat (first | exact HB.out | apply lF | apply lZ)⟩
end Go.Proofs.fM
end
section
namespace Go.Proofs.fM
open Go Go.Ai Go.RowKit Go.Proofs.bT.eG Go.Proofs.bT.iM Go.Proofs.bT.jd
set_option linter.unusedVariables false
set_option linter.unusedSimpArgs false
structure jv (w : World) : Prop where
 p : Lib.TabIs Tryz.prog w "internal/strconv.uint64pow10" .u64 Lib.pow10Tab
 a : Lib.TabIs Tryz.prog w "strings.asciiSpace" .u8 Lib.asciiSpaceTab
theorem QY : Tryz.prog.globalNamed "internal/strconv.uint64pow10" = some 3 := by kernel_rfl
theorem K5 : Tryz.prog.globalNamed "strings.asciiSpace" = some 2 := by kernel_rfl
theorem jv.below {w w' : World} (h : jv w) (hb : Below w.heap.size w w') : jv w' :=
 ⟨Joins.tab_stays QY h.p hb (Nat.le_refl _), Joins.tab_stays K5 h.a hb (Nat.le_refl _)⟩
noncomputable def textOf (o : Oper) : ByteArray := match o.op with
 | Op.call c => match c.args[0]? with
  | some (Operand.const (Value.string s)) => s
  | _ => ⟨#[]⟩
 | _ => ⟨#[]⟩
noncomputable def um : ByteArray := match Tryz.f133.body with
 | some (Code.seq _ (Code.seq (Code.region _ ops _) _)) => match ops[0]? with
  | some o => textOf o
  | none => ⟨#[]⟩
 | _ => ⟨#[]⟩
noncomputable def j3 : List ByteArray := (Lib.fields um.data.toList).map fun l => ⟨l.toArray⟩
theorem Yy : um.size < 4294967281 := by
 have : Nat.blt um.size 4294967281 = true := by kernel_rfl
 simpa [Nat.blt_eq] using this
theorem Yz (j : Nat) (b : UInt8) (h : um.data.toList[j]? = some b) : b.toNat < 128 := by
 have : (um.data.toList.all fun b => Nat.blt b.toNat 128) = true := by kernel_rfl
 have := List.all_eq_true.1 this b (List.mem_of_getElem? h)
 simpa [Nat.blt_eq] using this
theorem YA (w : World) (HT : jv w) : Calls Tryz.prog 187 #[.string um] w fun e w' => e = .returned (.slice (some ⟨w.heap.size, 0, none⟩) j3.length j3.length) ∧ w' = w.alloc (.cells (j3.map Value.string).toArray 9) := by
 have h := Tryz.strings_Fields_laid um w Yy Yz HT.a
 have e1 : j3.length = (Lib.fields um.data.toList).length := by unfold j3; rw [List.length_map]
 have e2 : j3.map Value.string = (Lib.fields um.data.toList).map fun l => Value.string ⟨l.toArray⟩ := by unfold j3; rw [List.map_map]; rfl
 rw [e1, e2]
 exact h
theorem YB {w : World} {b : Nat} {xs : List ByteArray} (hl : xs.length ≤ 9223372036854775807) (h : ∀ (j : Nat) x, xs[j]? = some x → w.cell? ⟨b, j, none⟩ = some (.string x)) : Kd.C Kd.string w (some ⟨b, 0, none⟩) xs.length xs := by
 refine ⟨rfl, hl, fun _ => ⟨_, rfl, fun j p hj => ⟨[.string p], rfl, rfl, fun i u hu => ?_⟩⟩⟩
 cases i with
 | zero =>
  have : Value.string p = u := by simpa using hu
  subst this
  have := h j p hj
  have hadd : (⟨b, 0, none⟩ : Addr).add (j * 1 + 0) = ⟨b, j, none⟩ := by
   unfold Addr.add
   by_cases h0 : j = 0
   ·subst h0; rfl
   ·simp [h0]
  show w.cell? ((⟨b, 0, none⟩ : Addr).add (j * 1 + 0)) = _
  rw [hadd]; exact this
 | succ i => simp at hu
theorem YC (w : World) : Kd.C Kd.string (w.alloc (.cells (j3.map Value.string).toArray 9)) (some ⟨w.heap.size, 0, none⟩) j3.length j3 := by
 refine YB ?_ ?_
 ·have : Nat.ble j3.length 100 = true := by kernel_rfl
  have := Nat.le_of_ble_eq_true this
  omega
 ·intro j x hj
  have hb : (w.alloc (.cells (j3.map Value.string).toArray 9)).heap[w.heap.size]? = some (.cells (j3.map Value.string).toArray 9) := by
   show (w.heap.push _)[w.heap.size]? = _
   simp
  simp only [World.cell?, hb, Option.isSome_none, Bool.false_eq_true, if_false]
  simp [hj]
theorem YD (n : Int) (h0 : -9223372036854775808 ≤ n) (h1 : n ≤ 9223372036854775807) (w : World) (HT : jv w) :
 Calls Tryz.prog 38 #[.int .i64 n] w fun e w' => e = .returned (.string ⟨(Lib.itoa n).toArray⟩) ∧ Below w.heap.size w w' := by
 refine (Tryz.strconv_Itoa n h0 h1 w HT.p).mono ?_
 rintro e w' ⟨rfl, k, os, rfl⟩
 refine ⟨rfl, ⟨rfl, rfl, rfl, ?_, fun i hi => ?_⟩⟩
 ·show w.heap.size ≤ (w.heap ++ os).size
  simp
 ·show (w.heap ++ os)[i]? = _
  rw [Array.getElem?_append, if_pos hi]
theorem YE (A : Option Addr) (c : Nat) (l : List ByteArray) (sep : ByteArray) (w : World) (hr : Kd.C Kd.string w A l.length l) (hc : l.length ≤ c)
 (hN : l.length ≤ 140737488355328) (hlen : (Lib.join (l.map (·.data.toList)) sep.data.toList).length ≤ 140737488355328) :
 Calls Tryz.prog 17 #[.slice A l.length c, .string sep] w fun e w' => e = .returned (.string ⟨(Lib.join (l.map (·.data.toList)) sep.data.toList).toArray⟩) ∧ Below w.heap.size w w' := by
 cases l with
 | nil =>
  refine (Tryz.strings_Join_none A c sep w).mono ?_
  rintro e w' ⟨rfl, rfl⟩
  exact ⟨rfl, Below.refl _ _⟩
 | cons x r =>
  obtain ⟨_, _, h3⟩ := hr
  obtain ⟨⟨bk, o, el⟩, rfl, h4⟩ := h3 (by simp)
  have hel : el = none := by
   obtain ⟨cs, _, h5, h6⟩ := h4 0 x rfl
   have h5 : cs = [.string x] := h5
   subst h5
   have h7 : w.cell? ⟨bk, o, el⟩ = some (.string x) := h6 0 _ rfl
   cases el with
   | none => rfl
   | some z =>
    unfold World.cell? at h7
    split at h7
    ·simp at h7
    ·cases h7
  subst hel
  have hcell : ∀ (j : Nat) y, (x :: r)[j]? = some y → w.cell? ⟨bk, o + j, none⟩ = some (.string y) := fun j y hj => by
   obtain ⟨cs, _, h5, h6⟩ := h4 j y hj
   have h5 : cs = [.string y] := h5
   subst h5
   have h7 : w.cell? ((⟨bk, o, none⟩ : Addr).add (j * 1 + 0)) = some (.string y) := h6 0 _ rfl
   have hadd : (⟨bk, o, none⟩ : Addr).add (j * 1 + 0) = ⟨bk, o + j, none⟩ := by
    unfold Addr.add
    by_cases h0 : j = 0
    ·subst h0; rfl
    ·simp [h0]
   rw [hadd] at h7; exact h7
  have hbk : bk < w.heap.size := by
   have := hcell 0 x rfl
   rcases Nat.lt_or_ge bk w.heap.size with h | h
   ·exact h
   ·simp [World.cell?, Array.getElem?_eq_none h] at this
  exact Tryz.strings_Join bk o c (x :: r) sep w hcell hbk hN hc hlen
end Go.Proofs.fM
end
section
namespace Go.Proofs.fM
open Go Go.Ai Go.RowKit Go.Proofs.bT.eG Go.Proofs.bT.iM Go.Proofs.bT.jd
set_option linter.unusedVariables false
theorem QZ (s : ByteArray) : ∀ (k : Nat) (n : Int), aN (oO s k n) (oO s (k + 1) n)
 | 0, n => aN.none _
 | k + 1, n => by
  have ih := QZ s k
  unfold oO
  repeat' first
   | (with_reducible exact ih _)
   | (with_reducible exact aN.refl _)
   | (with_reducible exact aN.none _)
   | (with_reducible refine aN.ite ?_ ?_)
   | exact ih _
theorem YF : ∀ a0 k, aN (yO k a0) (yO (k + 1) a0) := by
 intro a0 k
 unfold yO
 repeat' first
  | (with_reducible exact QZ _ _ _)
  | (with_reducible exact aN.refl _)
  | (with_reducible exact aN.none _)
  | (with_reducible refine aN.ite ?_ ?_)
  | (with_reducible refine aN.bind ?_ (fun _ => ?_))
theorem YG {g : Nat} {c : List AV} (h : T1.gl g = some c) : g = 2 ∧ c = BH := by
 have h' : (match Nat.beq g 2 with | true => some BH | false => none) = some c := h
 cases hb : Nat.beq g 2 with
 | false => rw [hb] at h'; cases h'
 | true => rw [hb] at h'; exact ⟨Nat.eq_of_beq_eq_true hb, (Option.some.inj h').symm⟩
theorem YH : Lib.asciiSpaceTab.length = 256 := by kernel_rfl
theorem YI : BH.length = 256 := by kernel_rfl
theorem YJ (i : Nat) (hi : i < 256) : BH[i]? = some (.int .u8 (Lib.asciiSpaceTab.getD i 0)) := by
 have this : (List.range 256).all (fun i => match BH[i]? with | some (.int .u8 n) => wJ n (Lib.asciiSpaceTab.getD i 0) | _ => false) = true := by kernel_rfl
 have := List.all_eq_true.1 this i (List.mem_range.2 hi)
 split at this
 ·rename_i n hn
  rw [Dr, beq_iff_eq] at this
  rw [hn, this]
 ·cases this
theorem jv.iw {w : World} (h : jv w) : Dw T1.gl w := by
 intro g c hg
 obtain ⟨rfl, rfl⟩ := YG hg
 have hcell := fun i hi => Lib.TabIs.cell h.a K5 i (by rw [YH]; exact hi)
 have h0 := hcell 0 (by omega)
 unfold World.cell? at h0
 split at h0
 case h_2 => cases h0
 rename_i C e fz hh
 refine ⟨C, e, fz, hh, fun i v hi => ?_⟩
 have hlt : i < 256 := by rw [← YI]; exact (List.getElem?_eq_some_iff.1 hi).1
 have hv := YJ i hlt
 rw [hi] at hv
 cases hv
 have h1 := hcell i hlt
 unfold World.cell? at h1
 rw [hh] at h1
 exact ⟨h1, trivial⟩
theorem YK (w : World) (HT : jv w) : Calls Tryz.prog 6 #[] w fun e w' => e = .returned (.bool true) ∧ Below w.heap.size w w' :=
 (YL HT.iw).mono fun e w' ⟨h1, h2⟩ => ⟨h1, Below.Yc h2⟩
end Go.Proofs.fM
end
