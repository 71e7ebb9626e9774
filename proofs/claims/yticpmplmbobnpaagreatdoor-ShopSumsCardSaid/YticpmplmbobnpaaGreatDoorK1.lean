/- The tables of this program; closed runs. -/
import Derived.Test.YticpmplmbobnpaaGreatDoorA5
import Derived.Lib.Bytealg
import Derived.KernelRfl
import Derived.Laws.LoneSync
import Derived.Test.YticpmplmbobnpaaGreatDoorProg
set_option linter.unusedVariables false
set_option linter.unusedSimpArgs false
section
namespace Go.Ai
open Go Go.Proofs
noncomputable def asciiT : List AV := List.map (fun n => AV.int .u8 (.ofNat n)) [0, 0, 0, 0, 0, 0, 0, 0, 0, 1, 1, 1, 1, 1, 0, 0, 0, 0, 0, 0, 0, 0, 0, 0, 0, 0, 0, 0, 0, 0, 0, 0, 1, 0, 0, 0, 0, 0, 0, 0, 0, 0, 0, 0, 0, 0, 0, 0, 0, 0, 0, 0, 0, 0, 0, 0, 0, 0, 0, 0, 0, 0, 0, 0, 0, 0, 0, 0, 0, 0, 0, 0, 0, 0, 0, 0, 0, 0, 0, 0, 0, 0, 0, 0, 0, 0, 0, 0, 0, 0, 0, 0, 0, 0, 0, 0, 0, 0, 0, 0, 0, 0, 0, 0, 0, 0, 0, 0, 0, 0, 0, 0, 0, 0, 0, 0, 0, 0, 0, 0, 0, 0, 0, 0, 0, 0, 0, 0, 0, 0, 0, 0, 0, 0, 0, 0, 0, 0, 0, 0, 0, 0, 0, 0, 0, 0, 0, 0, 0, 0, 0, 0, 0, 0, 0, 0, 0, 0, 0, 0, 0, 0, 0, 0, 0, 0, 0, 0, 0, 0, 0, 0, 0, 0, 0, 0, 0, 0, 0, 0, 0, 0, 0, 0, 0, 0, 0, 0, 0, 0, 0, 0, 0, 0, 0, 0, 0, 0, 0, 0, 0, 0, 0, 0, 0, 0, 0, 0, 0, 0, 0, 0, 0, 0, 0, 0, 0, 0, 0, 0, 0, 0, 0, 0, 0, 0, 0, 0, 0, 0, 0, 0, 0, 0, 0, 0, 0, 0, 0, 0, 0, 0, 0, 0, 0, 0, 0, 0, 0, 0, 0, 0, 0, 0, 0, 0]
noncomputable def pow10T : List AV := List.map (fun n => AV.int .u64 (.ofNat n)) [1, 10, 100, 1000, 10000, 100000, 1000000, 10000000, 100000000, 1000000000, 10000000000, 100000000000, 1000000000000, 10000000000000, 100000000000000, 1000000000000000, 10000000000000000, 100000000000000000, 1000000000000000000, 10000000000000000000]
noncomputable def casX (s : St) : List AV → Option (AV × St)
  | [.ptr n o, .int .i32 a, .int .i32 b] => match s.get n with
    | some (.cells c esz ex false) => match c[o]? with
      | some (.int .i32 x) => match Nat.blt n 16000000, iEq x a with
        | true, true => some (.bool true, s.put n (some (.cells (c.set o (.int .i32 b)) esz ex false)))
        | true, false => some (.bool false, s)
        | false, _ => none
      | _ => none
    | _ => none
  | _ => none
noncomputable def addX (s : St) : List AV → Option (AV × St)
  | [.ptr n o, .int .i32 d] => match s.get n with
    | some (.cells c esz ex false) => match c[o]? with
      | some (.int .i32 x) => match Nat.blt n 16000000 with
        | true => some (.int .i32 (IntKind.i32.wrap (x + d)), s.put n (some (.cells (c.set o (.int .i32 (IntKind.i32.wrap (x + d)))) esz ex false)))
        | false => none
      | _ => none
    | _ => none
  | _ => none
noncomputable def mark0X (s : St) : List AV → Option (AV × St)
  | [] => some (.tuple [], s)
  | _ => none
noncomputable def mark1X (s : St) : List AV → Option (AV × St)
  | [.ptr _ _] => some (.tuple [], s)
  | _ => none
def cntB (c : Nat) : List UInt8 → Nat
  | [] => 0
  | b :: l => match Nat.beq b.toNat c with
    | true => cntB c l + 1
    | false => cntB c l
noncomputable def countX (s : St) : List AV → Option (AV × St)
  | [.str l, .int .u8 (.ofNat c)] => match Nat.blt c 256 with
    | true => some (.int .i64 (cntB c l : Nat), s)
    | false => none
  | _ => none
noncomputable def xt0 (f : Nat) (s : St) (args : List AV) : Option (AV × St) :=
  match Nat.beq f 53 with
  | true => casX s args
  | false => match Nat.beq f 202 with
    | true => countX s args
    | false => match Nat.beq f 52 || Nat.beq f 54 with
      | true => mark0X s args
      | false => match Nat.beq f 55 || Nat.beq f 57 with
        | true => mark1X s args
        | false => match Nat.beq f 58 with
          | true => addX s args
          | false => none
noncomputable def T0 : Tbl where
  ti t := match Tryz.prog.info? t, Tryz.prog.underlying t with
    | some i, some d => some (i, d)
    | _, _ => none
  eqv _ _ _ := none
  fn f := match Tryz.prog.funcs[f]? with
    | some fn => match fn.body with
      | some _ => some fn
      | none => none
    | none => none
  gl g := match Nat.beq g 9 with
    | true => some asciiT
    | false => match Nat.beq g 1 with
      | true => some pow10T
      | false => none
  ibs f := Nat.beq f 94
  xt := xt0
  xd _ _ _ := none
  xc _ _ _ := none
noncomputable def T1 : Tbl := { T0 with eqv := fun t a b => match Nat.beq t 94 with
  | true => evEqD Tryz.prog T0 Op.maxDepth t (.agg a) (.agg b)
  | false => none }
theorem names_ok : (Tryz.prog.funcs.toList.all fun fn => !(fn.name == "runtime.NumGoroutine")) = true := by kernel_rfl
theorem guard94 : Tryz.prog.eqGuardType Tryz.prog.depth 94 = false := by kernel_rfl
theorem mixed_ok : Tryz.prog.follows .mixedOrders = true := by kernel_rfl
end Go.Ai
end
section
namespace Go.Ai
open Go Go.Proofs
theorem fun94 : Tryz.prog.funcs[94]? = some Tryz.f94 := Tryz.func94
theorem ibs_find : Extern.find Tryz.f94 = some Extern.BytealgIndexByte.indexByte := by kernel_rfl
theorem ibs_run (l : List UInt8) (c : Int) (w : World) (h0 : 0 ≤ c) (h1 : c < 256) : (callFunc 94 #[.string ⟨l.toArray⟩, .int .u8 c]).run Tryz.prog w = .ok (.value (.int .i64 (idxB c.toNat l 0))) w := by
  have hn : (Tryz.f94.name == "runtime.NumGoroutine") = false := by kernel_rfl
  have hb : Tryz.f94.body.isNone = true := by kernel_rfl
  have hnx : Extern.findNext Tryz.f94 = none := by kernel_rfl
  have hi : ∀ (l : List UInt8) (k : Nat), idxB c.toNat l k = if Lib.indexByte l c.toNat.toUInt8 = -1 then -1 else Lib.indexByte l c.toNat.toUInt8 + k := by
    have hnn : ∀ l : List UInt8, Lib.indexByte l c.toNat.toUInt8 = -1 ∨ 0 ≤ Lib.indexByte l c.toNat.toUInt8 := by
      intro l
      induction l with
      | nil => exact .inl rfl
      | cons b l ih =>
        simp only [Lib.indexByte, beq_iff_eq]
        split
        · exact .inr (by omega)
        · split
          · exact .inl rfl
          · rcases ih with ih | ih
            · contradiction
            · exact .inr (by omega)
    intro l
    induction l with
    | nil => intro k; rfl
    | cons b l ih =>
      intro k
      have hbc : (b == c.toNat.toUInt8) = Nat.beq b.toNat c.toNat := by
        rw [Bool.eq_iff_iff, beq_iff_eq, Nat.beq_eq, ← UInt8.toNat_inj]
        have : (c.toNat.toUInt8).toNat = c.toNat := by
          show (UInt8.ofNat c.toNat).toNat = _
          rw [UInt8.toNat_ofNat']
          omega
        rw [this]
      simp only [idxB, Lib.indexByte, hbc]
      cases Nat.beq b.toNat c.toNat with
      | true => simp
      | false =>
        simp only [Bool.false_eq_true, if_false, beq_iff_eq]
        rw [ih (k + 1)]
        rcases hnn l with h | h
        · simp [h]
        · have h2 : Lib.indexByte l c.toNat.toUInt8 ≠ -1 := by omega
          simp only [h2, if_false]
          rw [if_neg (by omega)]
          omega
  have hi0 : idxB c.toNat l 0 = Lib.indexByte l c.toNat.toUInt8 := by
    rw [hi]
    split
    · rename_i h; exact h.symm
    · simp
  have hrun := Lib.run_indexByteString (P := Tryz.prog) ⟨l.toArray⟩ c w
  simp only at hrun
  unfold callFunc
  simp only [Sem.run_bind, run_program, Result.andThen_ok, fun94, hn, hb, Bool.false_eq_true, if_false, if_true, hnx, ibs_find]
  have hm : (mark (Mark.extern 94)).run Tryz.prog w = .ok () w := rfl
  rw [hm]
  simp only [Result.andThen_ok, hrun, Sem.run_pure, hi0]
section
variable {D : Nat → Prop} {σ : Nat → Loc} {s : St} {w : World}
def XOK (gl : Nat → Option (List AV)) (f : Nat) (args : List AV) (s : St) (D : Nat → Prop) (σ : Nat → Loc) (w : World) (v : AV) (s' : St) : Prop :=
  ∃ D' σ' w', (callFunc f (concs σ args).toArray).run Tryz.prog w = .ok (.value (conc σ' v)) w' ∧ HR gl D' σ' s' w' ∧ Ext s.next D σ w D' σ' w' ∧ v.cl D' ∧ s.next ≤ s'.next
theorem cas_ok {gl : Nat → Option (List AV)} {args : List AV} {v : AV} {s' : St} (h : casX s args = some (v, s')) (H : HR gl D σ s w) (ha : cls D args) : XOK gl 53 args s D σ w v s' := by
  unfold casX at h
  split at h
  case h_2 => cases h
  rename_i n o a b
  split at h
  case h_2 => cases h
  rename_i c esz ex hg
  split at h
  case h_2 => cases h
  rename_i x hx
  have hD : D n := by simpa [cls, AV.cl] using ha
  have ho : o < c.length := (List.getElem?_eq_some_iff.1 hx).1
  have hc := (H.load hD hg hx).1
  split at h
  · rename_i hlt he
    cases h
    rw [iEq_eq, beq_iff_eq] at he
    subst he
    rw [Nat.blt_eq] at hlt
    obtain ⟨k1, _, k3, k4⟩ := H.store hD hg ho hlt (v := .int .i32 b) trivial
    refine ⟨D, σ, _, ?_, k3, k4, trivial, Nat.le_refl _⟩
    simp only [concs, conc]
    exact run_call_cas_hit Tryz.func53 (by kernel_rfl) (by kernel_rfl) (by kernel_rfl) .i32 (by kernel_rfl) hc k1
  · rename_i hlt he
    cases h
    rw [Nat.blt_eq] at hlt
    obtain ⟨k1, _, _, _⟩ := H.store hD hg ho hlt (v := .int .i32 b) trivial
    have hne : ¬ x = a := fun e => by rw [iEq_eq, e] at he; simp at he
    refine ⟨D, σ, w, ?_, H, Ext.refl _ _ _ _, trivial, Nat.le_refl _⟩
    simp only [concs, conc]
    exact run_call_cas_miss Tryz.func53 (by kernel_rfl) (by kernel_rfl) (by kernel_rfl) .i32 (by kernel_rfl) hc k1 hne
  · cases h
theorem add_ok {gl : Nat → Option (List AV)} {args : List AV} {v : AV} {s' : St} (h : addX s args = some (v, s')) (H : HR gl D σ s w) (ha : cls D args) : XOK gl 58 args s D σ w v s' := by
  unfold addX at h
  split at h
  case h_2 => cases h
  rename_i n o d
  split at h
  case h_2 => cases h
  rename_i c esz ex hg
  split at h
  case h_2 => cases h
  rename_i x hx
  split at h
  case h_2 => cases h
  rename_i hlt
  cases h
  have hD : D n := by simpa [cls, AV.cl] using ha
  have ho : o < c.length := (List.getElem?_eq_some_iff.1 hx).1
  have hc := (H.load hD hg hx).1
  rw [Nat.blt_eq] at hlt
  obtain ⟨k1, _, k3, k4⟩ := H.store hD hg ho hlt (v := .int .i32 (IntKind.i32.wrap (x + d))) trivial
  refine ⟨D, σ, _, ?_, k3, k4, trivial, Nat.le_refl _⟩
  simp only [concs, conc]
  exact run_call_add Tryz.func58 (by kernel_rfl) (by kernel_rfl) (by kernel_rfl) .i32 (by kernel_rfl) hc k1 (by simp [Op.intArith])
theorem cntB_eq (c : Nat) (hc : c < 256) : ∀ l : List UInt8, cntB c l = l.count c.toUInt8
  | [] => rfl
  | b :: l => by
    have hbc : Nat.beq b.toNat c = (b == c.toUInt8) := by
      rw [Bool.eq_iff_iff, beq_iff_eq, Nat.beq_eq, ← UInt8.toNat_inj]
      have : (c.toUInt8).toNat = c := by
        show (UInt8.ofNat c).toNat = _
        rw [UInt8.toNat_ofNat']
        omega
      rw [this]
    rw [cntB, hbc, List.count_cons, cntB_eq c hc l]
    cases h : (b == c.toUInt8) <;> simp
theorem count_ok {gl : Nat → Option (List AV)} {args : List AV} {v : AV} {s' : St} (h : countX s args = some (v, s')) (H : HR gl D σ s w) : XOK gl 202 args s D σ w v s' := by
  unfold countX at h
  split at h
  case h_2 => cases h
  rename_i l c
  split at h
  case h_2 => cases h
  rename_i hc
  cases h
  rw [Nat.blt_eq] at hc
  refine ⟨D, σ, w, ?_, H, Ext.refl _ _ _ _, trivial, Nat.le_refl _⟩
  simp only [concs, conc]
  rw [run_callFunc_extern Tryz.func202 (by kernel_rfl) (by kernel_rfl) (by kernel_rfl) (e := Extern.BytealgCount.count) (by kernel_rfl), Lib.run_countString]
  simp only [Result.andThen_ok, Sem.run_pure, cntB_eq c hc, Lib.countByte]
  rfl
theorem mark0_ok {gl : Nat → Option (List AV)} {f : Nat} {args : List AV} {v : AV} {s' : St} (hf : (Nat.beq f 52 || Nat.beq f 54) = true) (h : mark0X s args = some (v, s')) (H : HR gl D σ s w) : XOK gl f args s D σ w v s' := by
  unfold mark0X at h
  split at h
  case h_2 => cases h
  cases h
  refine ⟨D, σ, w, ?_, H, Ext.refl _ _ _ _, by simp [AV.cl, cls], Nat.le_refl _⟩
  simp only [Bool.or_eq_true] at hf
  simp only [concs, conc]
  rcases hf with hf | hf <;> rw [Nat.eq_of_beq_eq_true hf]
  · exact run_call_mark0 Tryz.func52 (by kernel_rfl) (by kernel_rfl) (by kernel_rfl) .disable (by kernel_rfl) w
  · exact run_call_mark0 Tryz.func54 (by kernel_rfl) (by kernel_rfl) (by kernel_rfl) .enable (by kernel_rfl) w
theorem mark1_ok {gl : Nat → Option (List AV)} {f : Nat} {args : List AV} {v : AV} {s' : St} (hf : (Nat.beq f 55 || Nat.beq f 57) = true) (h : mark1X s args = some (v, s')) (H : HR gl D σ s w) : XOK gl f args s D σ w v s' := by
  unfold mark1X at h
  split at h
  case h_2 => cases h
  cases h
  refine ⟨D, σ, w, ?_, H, Ext.refl _ _ _ _, by simp [AV.cl, cls], Nat.le_refl _⟩
  simp only [Bool.or_eq_true] at hf
  simp only [concs, conc]
  rcases hf with hf | hf <;> rw [Nat.eq_of_beq_eq_true hf]
  · exact run_call_marked Tryz.func55 (by kernel_rfl) (by kernel_rfl) (by kernel_rfl) .acquire (by kernel_rfl) _ w
  · exact run_call_marked Tryz.func57 (by kernel_rfl) (by kernel_rfl) (by kernel_rfl) .releaseMerge (by kernel_rfl) _ w
theorem xt0_ok (gl : Nat → Option (List AV)) (f : Nat) (s : St) (args : List AV) (v : AV) (s' : St) (h : xt0 f s args = some (v, s')) (D : Nat → Prop) (σ : Nat → Loc) (w : World) (H : HR gl D σ s w) (ha : cls D args) : XOK gl f args s D σ w v s' := by
  unfold xt0 at h
  split at h
  · rename_i hf
    rw [Nat.eq_of_beq_eq_true hf]
    exact cas_ok h H ha
  split at h
  · rename_i hf
    rw [Nat.eq_of_beq_eq_true hf]
    exact count_ok h H
  split at h
  · rename_i hf
    exact mark0_ok hf h H
  split at h
  · rename_i hf
    exact mark1_ok hf h H
  split at h
  · rename_i hf
    rw [Nat.eq_of_beq_eq_true hf]
    exact add_ok h H ha
  · cases h
end
theorem T0OK : TblOK Tryz.prog T0 where
  ti t i d h := by
    simp only [T0] at h
    split at h
    · rename_i a b h1 h2
      cases h
      exact ⟨h1, h2⟩
    · cases h
  eqv t xs ys r h := by cases h
  fn f fn h := by
    simp only [T0] at h
    split at h
    case h_2 => cases h
    rename_i g hg
    split at h
    case h_2 => cases h
    rename_i c hc
    cases h
    refine ⟨hg, ?_, c, hc⟩
    have := List.all_eq_true.1 names_ok _ (Array.mem_toList_iff.2 (Array.mem_of_getElem? hg))
    simpa using this
  ibs f h l c w h0 h1 := by
    have : f = 94 := Nat.eq_of_beq_eq_true h
    subst this
    exact ibs_run l c w h0 h1
  xt f s args v s' h D σ w H ha := xt0_ok _ f s args v s' h D σ w H ha
  xd f args s s' h := by cases h
  xc f args s v s' h := by cases h
  mixed := mixed_ok
theorem eqv_aux (d : Nat) {t : Nat} {xs ys : List AV} {r : Bool} (h : evEqD Tryz.prog T0 d t (.agg xs) (.agg ys) = some r) (σ : Nat → Loc) (w : World) : (Op.equalIn d t (.agg (concs σ xs).toArray) (.agg (concs σ ys).toArray)).run Tryz.prog w = .ok r w := by
  have := evEqD_run T0OK d t (.agg xs) (.agg ys) r h σ w
  simpa only [conc] using this
theorem eqv_guard {t : Nat} (ht : Nat.beq t 94 = true) : Tryz.prog.eqGuardType Tryz.prog.depth t = false := by
  rw [Nat.eq_of_beq_eq_true ht]; exact guard94
theorem eqv_split {b : Bool} {x : Option Bool} {r : Bool} (h : (match b with | true => x | false => none) = some r) : b = true ∧ x = some r := by
  cases b with
  | true => exact ⟨rfl, h⟩
  | false => cases h
theorem T1eqv (t : Nat) (xs ys : List AV) (r : Bool) (h : T1.eqv t xs ys = some r) : Tryz.prog.eqGuardType Tryz.prog.depth t = false ∧
    ∀ (σ : Nat → Loc) (w : World), (Op.equal t (.agg (concs σ xs).toArray) (.agg (concs σ ys).toArray)).run Tryz.prog w = .ok r w := by
  obtain ⟨h1, h2⟩ := eqv_split h
  exact ⟨eqv_guard h1, fun σ w => eqv_aux Op.maxDepth h2 σ w⟩
theorem T1ti : T1.ti = T0.ti := by unfold T1; kernel_rfl
theorem T1fn : T1.fn = T0.fn := by kernel_rfl
theorem T1ibs : T1.ibs = T0.ibs := by kernel_rfl
theorem T1xt : T1.xt = xt0 := by kernel_rfl
theorem T1xd : T1.xd = fun _ _ _ => none := by kernel_rfl
theorem T1xc : T1.xc = fun _ _ _ => none := by kernel_rfl
theorem T1OK : TblOK Tryz.prog T1 := by
  refine TblOK.mk ?_ T1eqv ?_ ?_ ?_ ?_ ?_ mixed_ok
  · rw [T1ti]; exact T0OK.ti
  · rw [T1fn]; exact T0OK.fn
  · rw [T1ibs]; exact T0OK.ibs
  · rw [T1xt]; exact fun f s args v s' h D σ w H ha => xt0_ok _ f s args v s' h D σ w H ha
  · rw [T1xd]; exact fun f args s s' h => by cases h
  · rw [T1xc]; exact fun f args s v s' h => by cases h
end Go.Ai
end
