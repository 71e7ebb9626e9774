/- The row: the arguments opened, the contract, an input that fits. -/
import Derived.Test.YtgliaoanlhbepaaGreatDoorR1
import Derived.Test.YtgliaoanlhbepaaGreatDoorJ2
set_option linter.unusedSimpArgs false
namespace Go.Proofs.YtgliaoanlhbepaaGreatDoor.partKeys
open Go.ChangeShapes Go.WideShapes Go.ChangeAt Go.RowKit Go.Deep Go.Proofs.YtgliaoanlhbepaaGreatDoor.Q Go.Proofs.bT.eG Go.Proofs.fM
open Go.ChangeMaps (open_string shut_string)
set_option linter.unusedVariables false
set_option maxRecDepth 100000 in
theorem contract (H : Type) (enc : TypeId × Value → H) (W : World) (base : Nat) (args : Array Value) (ds gs : List (DataW H)) (before : List MemPlace)
 (hval0 : ∀ (j : Nat) t v, Tryz.f3.params[j]? = some t → args[j]? = some v → Value.okWide Tryz.prog W .any base t v)
 (hW : DataW.Whole enc Tryz.prog Tryz.f3.params.toList Rows.partKeysSpec.vars false W args.toList ds gs before) (hk : Rows.uptoSmall H (ds ++ gs) = true) (hL : laidMetH Tryz.prog Rows.partKeysUptoRow.laid W) :
 Calls Tryz.prog 3 args W fun e W' => ∃ v, e = .returned v ∧ Rows.partKeysSpec.post enc Tryz.prog Tryz.f3 false true false false W args v W' := by
 have hval : ∀ (j : Nat) t v, Tryz.f3.params[j]? = some t → args[j]? = some v → Value.okWide Tryz.prog W .any base t v := hval0
 have hW' := hW
 have HT := tables hL
 obtain ⟨p, q, Uh, hV, rfl, hfz, hnd⟩ := hW
 have hA : DataW.TrodAll enc Tryz.prog W 0 (fun _ => true) true Tryz.f3.params.toList args.toList ds p := Uh
 rw [Tryz.params3] at hA hval
 obtain ⟨v0, vs0, d0, ds0, p0, q0, hargs, rfl, rfl, h0, r0⟩ := trodAll_cons hA
 obtain ⟨v1, vs1, d1, ds1, p1, q1, rfl, rfl, rfl, h1, r1⟩ := trodAll_cons r0
 obtain ⟨rfl, rfl, rfl⟩ := trodAll_nil r1
 obtain rfl : args = #[v0, v1] := by cases args; simp_all
 obtain ⟨rfl, rfl⟩ := trodVars_none hV
 obtain ⟨a0, rfl, rfl, rfl, y0⟩ := open_string Tryz.underlying9 (hval 0 9 v0 rfl rfl) h0
 obtain ⟨a1, len1, afX, rfl⟩ := okWide_slice Tryz.underlying22 (hval 1 22 v1 rfl rfl)
 have k1 := h1
 have lt1 : ∀ x ∈ p1, x.block < W.heap.size := by obtain ⟨m, hm⟩ := k1; exact DataW.trod_lt m _ _ _ hm
 obtain ⟨l, hlen, hC, hcap, au2⟩ := afP h1
 have hb := of_decide_eq_true hk
 simp only [List.append_nil, Rows.uptoBulkAll, Rows.uptoBulk] at hb
 have hs : a0.data.toList.length = a0.size := by rw [Array.length_toList]; rfl
 obtain ⟨k, hkk⟩ := ZH a0 l (by omega) (by omega)
 subst hlen
 clear Uh hval0 hk hL hb
 refine (Q.BP.calls k a0 a1 afX l true W hC hcap HT hkk).mono fun e W' ⟨he, Ui⟩ => ?_
 subst he
 exact ⟨_, rfl, _, _, _, [], _, [], hW', trodAll_mk1 (shut_bool Tryz.underlying4 _), trodAll_cons_mk (shut_string Tryz.underlying9 y0) (trodAll_cons_mk (Below.trod laidOut (by kernel_rfl) (of_decide_eq_true (by kernel_rfl)) k1 Ui lt1) trodAll_mk0), rfl, Ui.frame _, fun h => by cases h⟩
noncomputable def Ig (os : Os) : World :=
 { World.holding Tryz.prog os ⟨#[], #[], []⟩ with heap := (World.holding Tryz.prog os ⟨#[], #[], []⟩).heap.modify 0 fun
  | .cells _ t frozen => .cells #[.iface 263 (.agg #[.pointer (some ⟨10, 97, none⟩)])] t frozen
  | o => o }
noncomputable def rX : List (String × DataW Unit) := Rows.partKeysUptoRow.laid.filter fun x => x.2.handleName?.isNone
noncomputable def vS (os : Os) : World := (Ig os).layVars Tryz.prog rX
theorem afZ (os : Os) : (Ig os).layFits Tryz.prog rX [] = true := by kernel_rfl
theorem af0 (os : Os) : (Ig os).layIfaces Tryz.prog rX (vS os) = true := by kernel_rfl
theorem af2 (os : Os) (args : Array Value) : laidMet Tryz.prog rX ((vS os).forCall (fun _ _ => 0) ⟨#[], args, []⟩).memory := by
 have e1 : (rX.filter fun x => (rX.map (·.1)).contains x.1) = rX := List.filter_eq_self.2 fun x hx => List.contains_iff_mem.2 (List.mem_map.2 ⟨x, hx, rfl⟩)
 have e2 : (rX.filter fun x => !(rX.map (·.1)).contains x.1) = [] := List.filter_eq_nil_iff.2 fun x hx => by rw [List.contains_iff_mem.2 (List.mem_map.2 ⟨x, hx, rfl⟩)]; simp
 have h : laidMet Tryz.prog rX (vS os) := laidMet_layVars (w0 := Ig os) (rX.map (·.1)) [] (by rw [e1]; rfl) (by rw [e1]; exact afZ os) (by rw [e1]; exact af0 os) (by rw [e2]; exact LaidIn.none)
 exact h.of_heap (by simp [World.memory, World.forCall, Input.heap])
theorem af3 (os : Os) : laidMetH Tryz.prog Rows.partKeysUptoRow.laid ((vS os).forCall (fun _ _ => 0) ⟨#[], #[.string ⟨#[]⟩, .slice none 0 0], []⟩).memory :=
 laidMetH_of_parts (af2 os _) (by kernel_rfl)
theorem reads (os : Os) {H : Type} (enc : TypeId × Value → H) : ∃ places, DataW.whole enc Tryz.prog ((vS os).forCall (fun _ _ => 0) ⟨#[], #[.string ⟨#[]⟩, .slice none 0 0], []⟩).memory Tryz.f3.params.toList Rows.partKeysSpec.vars false #[Value.string ⟨#[]⟩, Value.slice none 0 0].toList 8 = some ([.lit (.string []), .nil], [], places) :=
 ⟨[], by kernel_rfl⟩
theorem af4 (os : Os) : ((vS os).forCall (fun _ _ => 0) ⟨#[], #[.string ⟨#[]⟩, .slice none 0 0], []⟩).variablesRefB Tryz.prog = true := by kernel_rfl
theorem af5 (os : Os) : (((vS os).forCall (fun _ _ => 0) ⟨#[], #[.string ⟨#[]⟩, .slice none 0 0], []⟩).heap.toList.drop Tryz.prog.globals.size).take ((begin Tryz.prog (fun _ _ => 0) default).world.heap.size - Tryz.prog.globals.size) =
 (begin Tryz.prog (fun _ _ => 0) default).world.heap.toList.drop Tryz.prog.globals.size := by kernel_rfl
theorem af6 (os : Os) : Input.okWideB Tryz.prog ((vS os).forCall (fun _ _ => 0) ⟨#[], #[.string ⟨#[]⟩, .slice none 0 0], []⟩) 3 ⟨#[], #[.string ⟨#[]⟩, .slice none 0 0], []⟩ = true := by kernel_rfl
set_option maxRecDepth 100000 in
theorem af7 (os : Os) (started : os.Started) (H : Type) (enc : TypeId × Value → H) (F : Stop.Interp) :
 ReturnsInHanded {} Tryz.checked os 3 .any ((Rows.OpenSpec.upto Rows.partKeysSpec).preRow enc Tryz.prog Tryz.f3 Rows.partKeysUptoRow.domain false Rows.partKeysUptoRow.laid) (((Rows.OpenSpec.upto Rows.partKeysSpec).at F).post enc Tryz.prog Tryz.f3 false true false false) := by
 obtain ⟨places, hx⟩ := reads os enc
 refine returnsInHanded_of_row (C := Tryz.checked) (s := Rows.OpenSpec.upto Rows.partKeysSpec) own started (by kernel_rfl) Tryz.func3
  (witness_row_atRef (enc := enc) (C := Tryz.checked) false (vS os) #[.string ⟨#[]⟩, .slice none 0 0] (World.layVars_os _ _ _) (af4 os) (af5 os) (af6 os)
   (OpenSpec.preRow_of_cond 8 hx (by kernel_rfl) (fun k hk => by cases hk; kernel_rfl) (by kernel_rfl) (af3 os))) ?_
 intro W base args ds gs before hval hW _ hcond _ hL _ _
 exact contract H enc W base args ds gs before hval hW (hcond _ rfl) hL
theorem KZ : Tryz.prog.funcNamed "mandrel/mandrellaw11.PartKeys" = some 3 := by kernel_rfl
set_option maxRecDepth 100000 in
theorem af8 : Tryz.f3.isInstance Tryz.prog Rows.partKeysUptoRow.origin Rows.partKeysUptoRow.targs := of_decide_eq_true (by kernel_rfl)
set_option maxRecDepth 100000 in
theorem X3 : Rows.PartKeysUptoSaid :=
 OpenClaim.holds_of_cond 3 Tryz.f3 rfl rfl rfl rfl rfl rfl rfl ⟨rfl, rfl, rfl, rfl, rfl⟩ rfl rfl rfl rfl rfl KZ Tryz.func3 joined
  af8 (by unfold Func.isWrapper; first | (rw [if_pos (by decide +kernel)]; kernel_rfl) | (rw [if_neg (by decide +kernel)]; exact ⟨rfl, rfl⟩))
  (fun os started H enc _ F => by rw [OpenClaim.pre_eq_preRow]; exact af7 os started H enc F)
end Go.Proofs.YtgliaoanlhbepaaGreatDoor.partKeys
