/- The tables of this program; closed runs. -/
import Derived.Test.YticpmplmbobnpaaGreatDoorK1
set_option linter.unusedVariables false
set_option linter.unusedSimpArgs false
namespace Go.Ai
open Go Go.Proofs
noncomputable def okCall (E : Ev) (f : Nat) (args : List AV) (r : AV) : Bool :=
  match E.call f args ⟨.leaf, 0⟩ with
  | some (v, _) => eqAV v r
  | none => false
theorem okCall_ok {E : Ev} {f : Nat} {args : List AV} {r : AV} (h : okCall E f args r = true) : ∃ s', E.call f args ⟨.leaf, 0⟩ = some (r, s') := by
  unfold okCall at h
  split at h
  · rename_i v s' hv
    rw [eqAV_eq h] at hv
    exact ⟨s', hv⟩
  · cases h
noncomputable def sm0 : Sums := fun _ _ => none
theorem sm0_ok {P : Program} {T : Tbl} : SumsOK P T sm0 := fun _ _ _ h => by cases h
noncomputable def E0 : Ev := fEv sm0 T1 300
theorem E0_ok : EvOK Tryz.prog T1 E0 := fEv_ok T1OK sm0_ok 300
noncomputable def clsT : List AV := List.map (fun n => AV.int .u8 (.ofNat n)) [0, 0, 0, 0, 0, 0, 0, 0, 0, 0, 1, 0, 0, 0, 0, 0, 0, 0, 0, 0, 0, 0, 0, 0, 0, 0, 0, 0, 0, 0, 0, 0, 1, 0, 0, 0, 0, 0, 0, 0, 0, 0, 0, 0, 0, 0, 0, 0, 3, 3, 3, 3, 3, 3, 3, 3, 3, 3, 0, 0, 0, 0, 0, 0, 0, 2, 2, 2, 2, 2, 2, 2, 2, 2, 2, 2, 2, 2, 2, 2, 2, 2, 2, 2, 2, 2, 2, 2, 2, 2, 2, 0, 0, 0, 0, 2, 0, 2, 2, 2, 2, 2, 2, 2, 2, 2, 2, 2, 2, 2, 2, 2, 2, 2, 2, 2, 2, 2, 2, 2, 2, 2, 2, 0, 0, 0, 0, 0, 0, 0, 0, 0, 0, 0, 0, 0, 0, 0, 0, 0, 0, 0, 0, 0, 0, 0, 0, 0, 0, 0, 0, 0, 0, 0, 0, 0, 0, 0, 0, 0, 0, 0, 0, 0, 0, 0, 0, 0, 0, 0, 0, 0, 0, 0, 0, 0, 0, 0, 0, 0, 0, 0, 0, 0, 0, 0, 0, 0, 0, 0, 0, 0, 0, 0, 0, 0, 0, 0, 0, 0, 0, 0, 0, 0, 0, 0, 0, 0, 0, 0, 0, 0, 0, 0, 0, 0, 0, 0, 0, 0, 0, 0, 0, 0, 0, 0, 0, 0, 0, 0, 0, 0, 0, 0, 0, 0, 0, 0, 0, 0, 0, 0, 0, 0, 0, 0, 0, 0, 0, 0, 0, 0, 0, 0, 0, 0]
theorem cls_closed (D : Nat → Prop) : AV.cl D (.agg clsT) := by
  have key : ∀ l : List Nat, cls D (List.map (fun n => AV.int .u8 (.ofNat n)) l) := fun l => (cls_iff _).2 fun v hv => by
    obtain ⟨n, _, rfl⟩ := List.mem_map.1 hv
    trivial
  simp only [AV.cl]
  exact key _
theorem run_classes : okCall E0 208 [] (.agg clsT) = true := by kernel_rfl
noncomputable def smC : Sums := fun f args => match Nat.beq f 208 with
  | true => match args with
    | [] => some (.agg clsT)
    | _ => none
  | false => none
theorem sum_classes : SumOK Tryz.prog T1 208 [] (.agg clsT) := by
  obtain ⟨s', h⟩ := okCall_ok run_classes
  exact sum_of_closed E0_ok h (fun _ => trivial) cls_closed
theorem smC_ok : SumsOK Tryz.prog T1 smC := by
  intro f args v h
  unfold smC at h
  split at h
  case h_2 => cases h
  rename_i hf
  split at h
  case h_2 => cases h
  cases h
  rw [Nat.eq_of_beq_eq_true hf]
  exact sum_classes
noncomputable def E1 : Ev := fEv smC T1 300
theorem E1_ok : EvOK Tryz.prog T1 E1 := fEv_ok T1OK smC_ok 300
theorem run_name_a : okCall E1 224 [.str [97]] (.bool true) = true := by kernel_rfl
theorem run_name_f : okCall E1 224 [.str [102]] (.bool true) = true := by kernel_rfl
theorem sum_name {l : List UInt8} (h : okCall E1 224 [.str l] (.bool true) = true) : SumOK Tryz.prog T1 224 [.str l] (.bool true) := by
  obtain ⟨s', h⟩ := okCall_ok h
  exact sum_of_closed E1_ok h (fun _ => ⟨trivial, trivial⟩) (fun _ => trivial)
noncomputable def isOf : List UInt8 → Bool := fun l => fbeqB l [97] || fbeqB l [102]
noncomputable def smN : Sums := fun f args => match Nat.beq f 224 with
  | true => match args with
    | [.str l] => match isOf l with
      | true => some (.bool true)
      | false => none
    | _ => none
  | false => smC f args
theorem smN_ok : SumsOK Tryz.prog T1 smN := by
  intro f args v h
  unfold smN at h
  split at h
  case h_2 => exact smC_ok f args v h
  rename_i hf
  split at h
  case h_2 => cases h
  rename_i l
  split at h
  case h_2 => cases h
  rename_i hl
  cases h
  rw [Nat.eq_of_beq_eq_true hf]
  simp only [isOf, fbeqB_eq, Bool.or_eq_true, beqB_iff] at hl
  rcases hl with rfl | rfl
  · exact sum_name run_name_a
  · exact sum_name run_name_f
noncomputable def E30 : Ev := fEv sm0 T1 20
theorem E30_ok : EvOK Tryz.prog T1 E30 := fEv_ok T1OK sm0_ok 20
noncomputable def xdS (f : Nat) (args : List AV) (s : St) : Option St := match Nat.beq f 30 with
  | true => evD E30 T1 30 args s
  | false => none
noncomputable def checkB : List UInt8 := [99, 104, 101, 99, 107]
noncomputable def bookB : List UInt8 := [56, 50, 49, 48, 54, 57, 32, 99, 104, 101, 99, 107, 10]
noncomputable def xcS (f : Nat) (args : List AV) (s : St) : Option (AV × St) := match Nat.beq f 23 with
  | true => match args with
    | [.slice n o 1 cap _] => match s.get n with
      | some (.cells c _ _ _) => match c[o]? with
        | some (.str l) => match fbeqB l checkB, Nat.ble 1 cap with
          | true, true => some (.str bookB, s)
          | _, _ => none
        | _ => none
      | _ => none
    | _ => none
  | false => none
noncomputable def TD : Tbl := { T1 with xd := xdS, xc := xcS }
end Go.Ai
