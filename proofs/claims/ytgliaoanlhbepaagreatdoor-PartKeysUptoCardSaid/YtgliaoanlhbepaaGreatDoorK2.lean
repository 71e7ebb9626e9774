/- The test known() answers true: run by the evaluator. -/
import Derived.Test.YtgliaoanlhbepaaGreatDoorK1
set_option linter.unusedVariables false
set_option linter.unusedSimpArgs false
namespace Go.Ai
open Go Go.Proofs
noncomputable def sI (E : Ev) (f : Nat) (args : List AV) (r : AV) : Bool :=
 match E.call f args ⟨.leaf, 0⟩ with
 | some (v, _) => iF v r
 | none => false
theorem Gi {E : Ev} {f : Nat} {args : List AV} {r : AV} (h : sI E f args r = true) : ∃ s', E.call f args ⟨.leaf, 0⟩ = some (r, s') := by
 unfold sI at h
 split at h
 ·rename_i v s' hv
  rw [yw h] at hv
  exact ⟨s', hv⟩
 ·cases h
noncomputable def K4 : pU := fun _ _ => none
theorem QU {P : Program} {T : aX} : Br P T K4 := fun _ _ _ h => by cases h
noncomputable def E0 : Ev := wM K4 T1 300
theorem Y1 : kE Tryz.prog T1 E0 := Dv yM QU 300
noncomputable def pV : List AV := List.map (fun n => AV.int .u8 (.ofNat n)) [0, 0, 0, 0, 0, 0, 0, 0, 0, 0, 1, 0, 0, 0, 0, 0, 0, 0, 0, 0, 0, 0, 0, 0, 0, 0, 0, 0, 0, 0, 0, 0, 1, 0, 0, 0, 0, 0, 0, 0, 0, 0, 0, 0, 0, 0, 0, 0, 3, 3, 3, 3, 3, 3, 3, 3, 3, 3, 0, 0, 0, 0, 0, 0, 0, 2, 2, 2, 2, 2, 2, 2, 2, 2, 2, 2, 2, 2, 2, 2, 2, 2, 2, 2, 2, 2, 2, 2, 2, 2, 2, 0, 0, 0, 0, 2, 0, 2, 2, 2, 2, 2, 2, 2, 2, 2, 2, 2, 2, 2, 2, 2, 2, 2, 2, 2, 2, 2, 2, 2, 2, 2, 2, 0, 0, 0, 0, 0, 0, 0, 0, 0, 0, 0, 0, 0, 0, 0, 0, 0, 0, 0, 0, 0, 0, 0, 0, 0, 0, 0, 0, 0, 0, 0, 0, 0, 0, 0, 0, 0, 0, 0, 0, 0, 0, 0, 0, 0, 0, 0, 0, 0, 0, 0, 0, 0, 0, 0, 0, 0, 0, 0, 0, 0, 0, 0, 0, 0, 0, 0, 0, 0, 0, 0, 0, 0, 0, 0, 0, 0, 0, 0, 0, 0, 0, 0, 0, 0, 0, 0, 0, 0, 0, 0, 0, 0, 0, 0, 0, 0, 0, 0, 0, 0, 0, 0, 0, 0, 0, 0, 0, 0, 0, 0, 0, 0, 0, 0, 0, 0, 0, 0, 0, 0, 0, 0, 0, 0, 0, 0, 0, 0, 0, 0, 0, 0]
theorem QV (D : Nat → Prop) : AV.cl D (.agg pV) := by
 have key : ∀ l : List Nat, cls D (List.map (fun n => AV.int .u8 (.ofNat n)) l) := fun l => (pG _).2 fun v hv => by
  obtain ⟨n, _, rfl⟩ := List.mem_map.1 hv
  trivial
 simp only [AV.cl]
 exact key _
theorem Y2 : sI E0 78 [] (.agg pV) = true := by kernel_rfl
noncomputable def yN : pU := fun f args => match Nat.beq f 78 with
 | true => match args with
  | [] => some (.agg pV)
  | _ => none
 | false => none
theorem Y3 : Di Tryz.prog T1 78 [] (.agg pV) := by
 obtain ⟨s', h⟩ := Gi Y2
 exact KY Y1 h (fun _ => trivial) QV
theorem Q0 : Br Tryz.prog T1 yN := by
 intro f args v h
 unfold yN at h
 split at h
 case h_2 => cases h
 rename_i hf
 split at h
 case h_2 => cases h
 cases h
 rw [Nat.eq_of_beq_eq_true hf]
 exact Y3
noncomputable def E1 : Ev := wM yN T1 300
theorem Y4 : kE Tryz.prog T1 E1 := Dv yM Q0 300
theorem Y5 : sI E1 66 [.str [105, 100]] (.bool true) = true := by kernel_rfl
theorem Y6 : sI E1 66 [.str [84]] (.bool true) = true := by kernel_rfl
theorem Y7 : sI E1 66 [.str [97]] (.bool true) = true := by kernel_rfl
theorem Y8 : sI E1 66 [.str [102]] (.bool true) = true := by kernel_rfl
theorem Gm {l : List UInt8} (h : sI E1 66 [.str l] (.bool true) = true) : Di Tryz.prog T1 66 [.str l] (.bool true) := by
 obtain ⟨s', h⟩ := Gi h
 exact KY Y4 h (fun _ => ⟨trivial, trivial⟩) (fun _ => trivial)
noncomputable def Q5 : List UInt8 → Bool := fun l => wI l [105, 100] || (wI l [84] || (wI l [97] || wI l [102]))
noncomputable def K6 : pU := fun f args => match Nat.beq f 66 with
 | true => match args with
  | [.str l] => match Q5 l with
   | true => some (.bool true)
   | false => none
  | _ => none
 | false => yN f args
theorem Y9 : Br Tryz.prog T1 K6 := by
 intro f args v h
 unfold K6 at h
 split at h
 case h_2 => exact Q0 f args v h
 rename_i hf
 split at h
 case h_2 => cases h
 rename_i l
 split at h
 case h_2 => cases h
 rename_i hl
 cases h
 rw [Nat.eq_of_beq_eq_true hf]
 simp only [Q5, JQ, Bool.or_eq_true, tJ] at hl
 rcases hl with rfl | rfl | rfl | rfl
 ·exact Gm Y5
 ·exact Gm Y6
 ·exact Gm Y7
 ·exact Gm Y8
noncomputable def E2 : Ev := wM K6 T1 300
theorem Y_ : kE Tryz.prog T1 E2 := Dv yM Y9 300
end Go.Ai
