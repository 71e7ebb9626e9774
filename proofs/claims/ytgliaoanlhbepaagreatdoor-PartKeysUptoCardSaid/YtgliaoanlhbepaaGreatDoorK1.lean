/- The test known() answers true: run by the evaluator. -/
import Derived.Test.YtgliaoanlhbepaaGreatDoorA5
import Derived.Lib.Bytealg
import Derived.KernelRfl
import Derived.Test.YtgliaoanlhbepaaGreatDoorChecked
set_option linter.unusedVariables false
set_option linter.unusedSimpArgs false
section
namespace Go.Ai
open Go Go.Proofs
noncomputable def BH : List AV := List.map (fun n => AV.int .u8 (.ofNat n)) [0, 0, 0, 0, 0, 0, 0, 0, 0, 1, 1, 1, 1, 1, 0, 0, 0, 0, 0, 0, 0, 0, 0, 0, 0, 0, 0, 0, 0, 0, 0, 0, 1, 0, 0, 0, 0, 0, 0, 0, 0, 0, 0, 0, 0, 0, 0, 0, 0, 0, 0, 0, 0, 0, 0, 0, 0, 0, 0, 0, 0, 0, 0, 0, 0, 0, 0, 0, 0, 0, 0, 0, 0, 0, 0, 0, 0, 0, 0, 0, 0, 0, 0, 0, 0, 0, 0, 0, 0, 0, 0, 0, 0, 0, 0, 0, 0, 0, 0, 0, 0, 0, 0, 0, 0, 0, 0, 0, 0, 0, 0, 0, 0, 0, 0, 0, 0, 0, 0, 0, 0, 0, 0, 0, 0, 0, 0, 0, 0, 0, 0, 0, 0, 0, 0, 0, 0, 0, 0, 0, 0, 0, 0, 0, 0, 0, 0, 0, 0, 0, 0, 0, 0, 0, 0, 0, 0, 0, 0, 0, 0, 0, 0, 0, 0, 0, 0, 0, 0, 0, 0, 0, 0, 0, 0, 0, 0, 0, 0, 0, 0, 0, 0, 0, 0, 0, 0, 0, 0, 0, 0, 0, 0, 0, 0, 0, 0, 0, 0, 0, 0, 0, 0, 0, 0, 0, 0, 0, 0, 0, 0, 0, 0, 0, 0, 0, 0, 0, 0, 0, 0, 0, 0, 0, 0, 0, 0, 0, 0, 0, 0, 0, 0, 0, 0, 0, 0, 0, 0, 0, 0, 0, 0, 0, 0, 0, 0, 0, 0, 0, 0, 0, 0, 0, 0, 0]
noncomputable def T0 : aX where
 ti t := match Tryz.prog.info? t, Tryz.prog.underlying t with
  | some i, some d => some (i, d)
  | _, _ => none
 eqv _ _ _ := none
 fn f := match Tryz.prog.funcs[f]? with
  | some fn => match fn.body with
   | some _ => some fn
   | none => none
  | none => none
 gl g := match Nat.beq g 2 with
  | true => some BH
  | false => none
 oJ f := Nat.beq f 364
noncomputable def T1 : aX := { T0 with eqv := fun t a b => match Nat.beq t 29 || Nat.beq t 74 with
 | true => BG Tryz.prog T0 Op.maxDepth t (.agg a) (.agg b)
 | false => none }
theorem YM : (Tryz.prog.funcs.toList.all fun fn => !(fn.name == "runtime.NumGoroutine")) = true := by kernel_rfl
theorem YN : Extern.find Tryz.f364 = some Extern.BytealgIndexByte.indexByte := by kernel_rfl
theorem YO : (Extern.findNext Tryz.f364).isNone = true := by kernel_rfl
theorem YP : Tryz.prog.funcs[364]? = some Tryz.f364 := by kernel_rfl
theorem YQ : Tryz.prog.eqGuardType Tryz.prog.depth 29 = false := by kernel_rfl
theorem YR : Tryz.prog.eqGuardType Tryz.prog.depth 74 = false := by kernel_rfl
theorem K3 : Tryz.prog.follows .mixedOrders = true := by kernel_rfl
end Go.Ai
end
section
namespace Go.Ai
open Go Go.Proofs
theorem YS (l : List UInt8) (c : Int) (w : World) (h0 : 0 ≤ c) (h1 : c < 256) : (callFunc 364 #[.string ⟨l.toArray⟩, .int .u8 c]).run Tryz.prog w = .ok (.value (.int .i64 (xR c.toNat l 0))) w := by
 have hn : (Tryz.f364.name == "runtime.NumGoroutine") = false := by kernel_rfl
 have hb : Tryz.f364.body.isNone = true := by kernel_rfl
 have hnx : Extern.findNext Tryz.f364 = none := by
  have := YO
  cases h : Extern.findNext Tryz.f364 with
  | none => rfl
  | some e => rw [h] at this; cases this
 have hi : ∀ (l : List UInt8) (k : Nat), xR c.toNat l k = if Lib.indexByte l c.toNat.toUInt8 = -1 then -1 else Lib.indexByte l c.toNat.toUInt8 + k := by
  have hnn : ∀ l : List UInt8, Lib.indexByte l c.toNat.toUInt8 = -1 ∨ 0 ≤ Lib.indexByte l c.toNat.toUInt8 := by
   intro l
   induction l with
   | nil => exact .inl rfl
   | cons b l ih =>
    simp only [Lib.indexByte, beq_iff_eq]
    split
    ·exact .inr (by omega)
    ·split
     ·exact .inl rfl
     ·rcases ih with ih | ih
      ·contradiction
      ·exact .inr (by omega)
  intro l
  induction l with
  | nil => intro k; rfl
  | cons b l ih =>
   intro k
   have hbc : (b == c.toNat.toUInt8) = Nat.beq b.toNat c.toNat := by
    rw [Bool.eq_iff_iff, beq_iff_eq, Nat.beq_eq, ← UInt8.toNat_inj]
    have : (c.toNat.toUInt8).toNat = c.toNat := by
     show (UInt8.ofNat c.toNat).toNat = _
     rw [UInt8.toNat_ofNat']
     omega
    rw [this]
   simp only [xR, Lib.indexByte, hbc]
   cases Nat.beq b.toNat c.toNat with
   | true => simp
   | false =>
    simp only [Bool.false_eq_true, if_false, beq_iff_eq]
    rw [ih (k + 1)]
    rcases hnn l with h | h
    ·simp [h]
    ·have h2 : Lib.indexByte l c.toNat.toUInt8 ≠ -1 := by omega
     simp only [h2, if_false]
     rw [if_neg (by omega)]
     omega
 have hi0 : xR c.toNat l 0 = Lib.indexByte l c.toNat.toUInt8 := by
  rw [hi]
  split
  ·rename_i h; exact h.symm
  ·simp
 have hrun := Lib.run_indexByteString (P := Tryz.prog) ⟨l.toArray⟩ c w
 simp only at hrun
 unfold callFunc
 simp only [Sem.run_bind, run_program, Result.andThen_ok, YP, hn, hb, Bool.false_eq_true, if_false, if_true, hnx, YN]
 have hm : (mark (Mark.extern 364)).run Tryz.prog w = .ok () w := rfl
 rw [hm]
 simp only [Result.andThen_ok, hrun, Sem.run_pure, hi0]
theorem Gl : dM Tryz.prog T0 where
 ti t i d h := by
  simp only [T0] at h
  split at h
  ·rename_i a b h1 h2
   cases h
   exact ⟨h1, h2⟩
  ·cases h
 eqv t xs ys r h := by cases h
 fn f fn h := by
  simp only [T0] at h
  split at h
  case h_2 => cases h
  rename_i g hg
  split at h
  case h_2 => cases h
  rename_i c hc
  cases h
  refine ⟨hg, ?_, c, hc⟩
  have := List.all_eq_true.1 YM _ (Array.mem_toList_iff.2 (Array.mem_of_getElem? hg))
  simpa using this
 oJ f h l c w h0 h1 := by
  have : f = 364 := Nat.eq_of_beq_eq_true h
  subst this
  exact YS l c w h0 h1
 mixed := K3
theorem YT (d : Nat) {t : Nat} {xs ys : List AV} {r : Bool} (h : BG Tryz.prog T0 d t (.agg xs) (.agg ys) = some r) (σ : Nat → Loc) (w : World) : (Op.equalIn d t (.agg (bD σ xs).toArray) (.agg (bD σ ys).toArray)).run Tryz.prog w = .ok r w := by
 have := QN Gl d t (.agg xs) (.agg ys) r h σ w
 simpa only [aT] using this
theorem YU {t : Nat} (ht : (Nat.beq t 29 || Nat.beq t 74) = true) : Tryz.prog.eqGuardType Tryz.prog.depth t = false := by
 simp only [Bool.or_eq_true] at ht
 rcases ht with ht | ht
 ·rw [Nat.eq_of_beq_eq_true ht]; exact YQ
 ·rw [Nat.eq_of_beq_eq_true ht]; exact YR
theorem YV {b : Bool} {x : Option Bool} {r : Bool} (h : (match b with | true => x | false => none) = some r) : b = true ∧ x = some r := by
 cases b with
 | true => exact ⟨rfl, h⟩
 | false => cases h
theorem YW (t : Nat) (xs ys : List AV) (r : Bool) (h : T1.eqv t xs ys = some r) : Tryz.prog.eqGuardType Tryz.prog.depth t = false ∧
 ∀ (σ : Nat → Loc) (w : World), (Op.equal t (.agg (bD σ xs).toArray) (.agg (bD σ ys).toArray)).run Tryz.prog w = .ok r w := by
 obtain ⟨h1, h2⟩ := YV h
 exact ⟨YU h1, fun σ w => YT Op.maxDepth h2 σ w⟩
theorem YX : T1.ti = T0.ti := by unfold T1; kernel_rfl
theorem YZ : T1.fn = T0.fn := by kernel_rfl
theorem Y0 : T1.oJ = T0.oJ := by kernel_rfl
theorem yM : dM Tryz.prog T1 := by
 refine dM.mk ?_ YW ?_ ?_ K3
 ·rw [YX]; exact Gl.ti
 ·rw [YZ]; exact Gl.fn
 ·rw [Y0]; exact Gl.oJ
end Go.Ai
end
