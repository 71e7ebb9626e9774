/- Contracts of functions that are taken as given in the walks: strings.Builder, sums, books; the test known() answers true. -/
import Derived.Test.YticpmplmbobnpaaGreatDoorG1
import Derived.Test.YticpmplmbobnpaaGreatDoorK2
section
namespace Go.Proofs.GreatGiven
open Go Go.Ai Go.RowKit Go.Proofs.ZzShopW.PrintWords Go.Proofs.ZzShopW.PrintLast Go.Proofs.ZzShopW.PrintMore
set_option linter.unusedVariables false
set_option linter.unusedSimpArgs false
def allOrder (l : List ByteArray) : Bool := l.all isOrderB
def writeT (l : List ByteArray) : ByteArray × Int := if 60 < l.length then (⟨#[]⟩, 3) else if allOrder l = true then (⟨(bookT l).toArray⟩, 0) else (⟨#[]⟩, 1)
theorem idx_all (l : List ByteArray) (hl : l.length ≤ 1000000000000) : ∃ r, idxL (l.length + 1) l 0 = some r ∧ decide (r ≥ 0) = !allOrder l := by
  obtain ⟨r, h1, h2, h3⟩ := idxL_ends l hl l.length 0 (by omega)
  refine ⟨r, by simpa using h1, ?_⟩
  rw [List.drop_zero] at h2
  unfold allOrder
  cases ha : l.all isOrderB with
  | true =>
    have : ¬ (r ≥ 0) := fun h => by
      obtain ⟨s, hs, h⟩ := h2.1 h
      rw [List.all_eq_true.1 ha s hs] at h
      cases h
    simp [this]
  | false =>
    have : 0 ≤ r := h2.2 (by
      rw [List.all_eq_false] at ha
      obtain ⟨s, hs, h⟩ := ha
      exact ⟨s, hs, by simpa using h⟩)
    simp [this]
set_option maxHeartbeats 8000000 in
set_option maxRecDepth 100000 in
theorem write_calls (A0 : Option Addr) (c0 : Nat) (l0 : List ByteArray) (w : World) (hr0 : Kd.C Kd.string w A0 l0.length l0) (hc0 : l0.length ≤ c0) (ht : Lib.TabIs Tryz.prog w "internal/strconv.uint64pow10" .u64 Lib.pow10Tab) (hbulk : bulkT l0 ≤ 1000000000000) :
    Calls Tryz.prog 8 #[.slice A0 l0.length c0] w fun e w' => e = .returned (.tuple #[.string (writeT l0).1, .int .i64 (writeT l0).2]) ∧ Below w.heap.size w w' := by
  have hlen := bulk_len l0
  obtain ⟨r, hr1, hr2⟩ := idx_all l0 (by omega)
  have HR0 := Aside0.mk hr0
  have HC0 := Aside0.mk hc0
  have HT := Aside0.mk ht
  have HK := Aside0.mk hbulk
  have HX := Aside0.mk hr1
  clear hr0 hc0 ht hbulk hr1 hlen
  have hu22 := Tryz.underlying22
  have hu33 := Tryz.underlying33
  have hu9 := Tryz.underlying9
  have hu4 := Tryz.underlying4
  have hu3 := Tryz.underlying3
  have hu25 := Tryz.underlying25
  by_cases c1 : (l0.length : Int) > 60
  · have c1b : decide ((l0.length : Int) > 60) = true := decide_eq_true c1
    have c1c : decide ((60 : Int) < (l0.length : Int)) = true := decide_eq_true (by omega)
    have c1d : (60 < l0.length) = True := eq_true (by omega)
    have hw : writeT l0 = (⟨#[]⟩, 3) := if_pos (by omega)
    rw [hw]
    clear hw c1 hr2
    go_enter Tryz.func8, Tryz.ntmps8
    go_wp2
    go_ret2
    exact ⟨rfl, Below.refl _ _⟩
  · have c1b : decide ((l0.length : Int) > 60) = false := decide_eq_false c1
    have c1c : decide ((60 : Int) < (l0.length : Int)) = false := decide_eq_false (by omega)
    have c1d : (60 < l0.length) = False := eq_false (by omega)
    cases ha : allOrder l0 with
    | false =>
      have hw : writeT l0 = (⟨#[]⟩, 1) := by unfold writeT; rw [if_neg (by omega), if_neg (by simp [ha])]
      rw [hw]
      rw [ha] at hr2
      clear hw c1 ha
      go_enter Tryz.func8, Tryz.ntmps8
      go_wp2_with (go_at_call 20; refine (containsFunc_calls _ A0 c0 l0 r _ HR0.out HC0.out HX.out).mono ?_; rintro e w' ⟨rfl, rfl⟩; simp only [hr2, Bool.not_false])
      go_ret2
      exact ⟨rfl, Below.refl _ _⟩
    | true =>
      have hw : writeT l0 = (⟨(bookT l0).toArray⟩, 0) := by unfold writeT; rw [if_neg (by omega), if_pos ha]
      rw [hw]
      rw [ha] at hr2
      clear hw c1 ha
      go_enter Tryz.func8, Tryz.ntmps8
      go_wp2_with (first
        | (go_at_call 20; refine (containsFunc_calls _ A0 c0 l0 r _ HR0.out HC0.out HX.out).mono ?_; rintro e w' ⟨rfl, rfl⟩; simp only [hr2, Bool.not_true])
        | (go_at_call 23; refine (written_calls A0 c0 l0 _ HR0.out HC0.out HT.out HK.out).mono ?_))
      rintro e w1 ⟨rfl, hb⟩
      have HB := Aside0.mk hb
      clear hb
      go_wp2
      go_ret2
      exact ⟨rfl, HB.out⟩
theorem book_check : (⟨(bookT [⟨checkB.toArray⟩]).toArray⟩ : ByteArray) = ⟨bookB.toArray⟩ := by
  have h : sumT 0 ⟨checkB.toArray⟩ = 821069 := by
    simp [sumT, sum0, sumB, checkB, sumStep, wrap64]
  have h2 : Lib.itoa 821069 = [56, 50, 49, 48, 54, 57] := by
    simp [Lib.itoa, Lib.decDigits]
  simp only [bookT, bookGo, h, lineT, h2, List.append_nil]
  rfl
end Go.Proofs.GreatGiven
end
section
namespace Go.Proofs.GreatGiven
open Go Go.Ai Go.RowKit Go.Proofs.ZzShopW.PrintWords Go.Proofs.ZzShopW.PrintLast Go.Proofs.ZzShopW.PrintMore
set_option linter.unusedVariables false
set_option linter.unusedSimpArgs false
theorem T1gl : T1.gl = T0.gl := by kernel_rfl
theorem TDgl : TD.gl = T0.gl := by kernel_rfl
theorem TDti : TD.ti = T1.ti := by unfold TD; kernel_rfl
theorem TDeqv : TD.eqv = T1.eqv := by unfold TD; kernel_rfl
theorem TDfn : TD.fn = T1.fn := by unfold TD; kernel_rfl
theorem TDibs : TD.ibs = T1.ibs := by unfold TD; kernel_rfl
theorem TDxt : TD.xt = xt0 := by kernel_rfl
theorem TDxd : TD.xd = xdS := by kernel_rfl
theorem TDxc : TD.xc = xcS := by kernel_rfl
theorem gl_pow : T0.gl 1 = some pow10T := by kernel_rfl
theorem gl_only {g : Nat} {c : List AV} (h : T0.gl g = some c) : (g = 9 ∧ c = asciiT) ∨ (g = 1 ∧ c = pow10T) := by
  have h' : (match Nat.beq g 9 with
    | true => some asciiT
    | false => match Nat.beq g 1 with
      | true => some pow10T
      | false => none) = some c := h
  cases hb : Nat.beq g 9 with
  | true => rw [hb] at h'; exact .inl ⟨Nat.eq_of_beq_eq_true hb, (Option.some.inj h').symm⟩
  | false =>
    rw [hb] at h'
    cases hc : Nat.beq g 1 with
    | true => simp only [hc] at h'; exact .inr ⟨Nat.eq_of_beq_eq_true hc, (Option.some.inj h').symm⟩
    | false => simp only [hc] at h'; cases h'
theorem pow_len : Lib.pow10Tab.length = 20 := by kernel_rfl
theorem powT_len : pow10T.length = 20 := by kernel_rfl
theorem asc_len : Lib.asciiSpaceTab.length = 256 := by kernel_rfl
theorem ascT_len : asciiT.length = 256 := by kernel_rfl
theorem powT_at (i : Nat) (hi : i < 20) : pow10T[i]? = some (.int .u64 (Lib.pow10Tab.getD i 0)) := by
  have this : (List.range 20).all (fun i => match pow10T[i]? with | some (.int .u64 n) => iEq n (Lib.pow10Tab.getD i 0) | _ => false) = true := by kernel_rfl
  have := List.all_eq_true.1 this i (List.mem_range.2 hi)
  split at this
  · rename_i n hn
    rw [iEq_eq, beq_iff_eq] at this
    rw [hn, this]
  · cases this
theorem ascT_at (i : Nat) (hi : i < 256) : asciiT[i]? = some (.int .u8 (Lib.asciiSpaceTab.getD i 0)) := by
  have this : (List.range 256).all (fun i => match asciiT[i]? with | some (.int .u8 n) => iEq n (Lib.asciiSpaceTab.getD i 0) | _ => false) = true := by kernel_rfl
  have := List.all_eq_true.1 this i (List.mem_range.2 hi)
  split at this
  · rename_i n hn
    rw [iEq_eq, beq_iff_eq] at this
    rw [hn, this]
  · cases this
theorem pow_tab {D : Nat → Prop} {σ : Nat → Ai.Loc} {s : St} {w : World} (H : HR T0.gl D σ s w) : Lib.TabIs Tryz.prog w "internal/strconv.uint64pow10" .u64 Lib.pow10Tab := by
  obtain ⟨⟨C, e, fz, h1, h2, h3⟩, _⟩ := H.glob 1 pow10T gl_pow
  have hC : C = (Lib.pow10Tab.map fun z => Value.int .u64 z).toArray := by
    apply Array.ext_getElem?
    intro i
    rcases Nat.lt_or_ge i 20 with hi | hi
    · rw [(h3 i _ (powT_at i hi)).1]
      have hl : i < Lib.pow10Tab.length := by rw [pow_len]; exact hi
      simp only [conc, List.getElem?_toArray, List.getElem?_map, List.getElem?_eq_getElem hl, Option.map_some, List.getD_eq_getElem?_getD, Option.getD_some]
    · rw [Array.getElem?_eq_none (by rw [h2, powT_len]; exact hi), List.getElem?_toArray, List.getElem?_map, List.getElem?_eq_none (by rw [pow_len]; exact hi)]
      rfl
  unfold Lib.TabIs World.var?
  rw [glob_p, Option.bind_some, h1, hC]
theorem TabW.glob {w : World} (h : TabW w) : GlobOK T0.gl w := by
  have key : ∀ {g : Nat} {name : String} {k : IntKind} {zs : List Int} {t : List AV} {n : Nat}, Tryz.prog.globalNamed name = some g → Lib.TabIs Tryz.prog w name k zs → zs.length = n → t.length = n → (∀ i, i < n → t[i]? = some (.int k (zs.getD i 0))) →
      ∃ C e fz, w.heap[g]? = some (.cells C e fz) ∧ C.size = t.length ∧ ∀ (i : Nat) (v : AV), t[i]? = some v → C[i]? = some (conc (fun _ => ⟨0, 0, 0⟩) v) ∧ v.cl fun _ => False := by
    intro g name k zs t n hg ht hz htl hat
    have ht' := ht
    unfold Lib.TabIs World.var? at ht
    rw [hg, Option.bind_some] at ht
    split at ht
    case h_2 => cases ht
    rename_i C e fz hh
    cases ht
    refine ⟨_, e, fz, hh, by simp [hz, htl], fun i v hi => ?_⟩
    have hlt : i < n := by rw [← htl]; exact (List.getElem?_eq_some_iff.1 hi).1
    have hv := hat i hlt
    rw [hi] at hv
    cases hv
    have hl : i < zs.length := by omega
    refine ⟨?_, trivial⟩
    simp only [conc, List.getElem?_toArray, List.getElem?_map, List.getElem?_eq_getElem hl, Option.map_some, List.getD_eq_getElem?_getD, Option.getD_some]
  intro g c hg
  rcases gl_only hg with ⟨rfl, rfl⟩ | ⟨rfl, rfl⟩
  · exact key glob_a h.a asc_len ascT_len ascT_at
  · exact key glob_p h.p pow_len powT_len powT_at
theorem xd_ok (f : Nat) (args : List AV) (s s' : St) (h : xdS f args s = some s') : (∃ fn, T1.fn f = some fn) ∧ ∀ (D : Nat → Prop) (σ : Nat → Ai.Loc) (w : World), HR T0.gl D σ s w → cls D args →
    CallsDIn { Fence.wide with round := none } 0 Tryz.prog f (concs σ args).toArray .returning w fun e u' w' => u' = .returning ∧ (∃ v, e = .returned v) ∧
      ∃ D' σ', HR T0.gl D' σ' s' w' ∧ Ext s.next D σ w D' σ' w' ∧ s.next ≤ s'.next := by
  unfold xdS at h
  split at h
  case h_2 => cases h
  rename_i hf
  rw [Nat.eq_of_beq_eq_true hf]
  refine ⟨?_, fun D σ w H ha => ?_⟩
  · unfold evD at h
    cases hfn : T1.fn 30 with
    | none => rw [hfn] at h; cases h
    | some fn => exact ⟨fn, rfl⟩
  · have := evD_ok T1OK E30_ok h (by rw [T1gl]; exact H) ha .returning
    rw [T1gl] at this
    exact this
theorem xc_ok (f : Nat) (args : List AV) (s : St) (v : AV) (s' : St) (h : xcS f args s = some (v, s')) (D : Nat → Prop) (σ : Nat → Ai.Loc) (w : World) (H : HR T0.gl D σ s w) (ha : cls D args) :
    CallsIn { Fence.wide with round := none } 0 Tryz.prog f (concs σ args).toArray w fun e w' =>
      ∃ D' σ', e = .returned (conc σ' v) ∧ HR T0.gl D' σ' s' w' ∧ Ext s.next D σ w D' σ' w' ∧ v.cl D' ∧ s.next ≤ s'.next := by
  unfold xcS at h
  split at h
  case h_2 => cases h
  rename_i hf
  split at h
  case h_2 => cases h
  rename_i n o cap full
  split at h
  case h_2 => cases h
  rename_i c esz ex fz hg
  split at h
  case h_2 => cases h
  rename_i l hl
  split at h
  case h_2 => cases h
  rename_i hb hcap
  cases h
  rw [fbeqB_eq, beqB_iff] at hb
  subst hb
  rw [Nat.ble_eq] at hcap
  rw [Nat.eq_of_beq_eq_true hf]
  have hD : D n := by simpa [cls, AV.cl] using ha
  have hcell := (H.load hD hg hl).1
  have hC : Kd.C Kd.string w (some ⟨(σ n).block, (σ n).off + o, none⟩) ([⟨checkB.toArray⟩] : List ByteArray).length [⟨checkB.toArray⟩] := by
    refine ⟨rfl, by simp, fun _ => ⟨_, rfl, fun j v hj => ?_⟩⟩
    cases j with
    | succ j => simp at hj
    | zero =>
      simp at hj
      subst hj
      refine ⟨[.string ⟨checkB.toArray⟩], rfl, ?_, fun i u hu => ?_⟩
      · first | rfl | simp [Kd.string, Kd.scalar] | (unfold Kd.string; rfl)
      · cases i with
        | succ i => simp at hu
        | zero =>
          simp at hu
          subst hu
          simp only [Nat.zero_mul, Nat.zero_add, addr_add, Nat.add_zero]
          simpa only [conc] using hcell
  have hbk : bulkT [⟨checkB.toArray⟩] ≤ 1000000000000 := by
    have : (⟨checkB.toArray⟩ : ByteArray).size = 5 := rfl
    simp only [bulkT, this]
    omega
  have hcalls := written_calls (some ⟨(σ n).block, (σ n).off + o, none⟩) (if full then cap + (σ n).spare else cap) [⟨checkB.toArray⟩] w hC (by simp only [List.length_singleton]; split <;> omega) (pow_tab H) hbk
  rw [book_check] at hcalls
  have h2 : CallsIn Fence.wide 0 Tryz.prog 23 (concs σ [AV.slice n o 1 cap full]).toArray w _ := callsIn_wide.2 hcalls
  refine CallsIn.mono h2 ?_
  rintro e w' ⟨rfl, hbw⟩
  have hgr : Ai.Grown w w' := ⟨hbw.size, fun b hb => hbw.block b hb, hbw.os, hbw.tape, hbw.output⟩
  exact ⟨D, σ, rfl, hgr.hr H, hgr.ext, trivial, Nat.le_refl _⟩
theorem TDOK : TblOK Tryz.prog TD := by
  refine TblOK.mk ?_ ?_ ?_ ?_ ?_ ?_ ?_ mixed_ok
  · rw [TDti]; exact T1OK.ti
  · rw [TDeqv]; exact T1OK.eqv
  · rw [TDfn]; exact T1OK.fn
  · rw [TDibs]; exact T1OK.ibs
  · rw [TDxt]; exact fun f s args v s' h D σ w H ha => xt0_ok _ f s args v s' h D σ w H ha
  · rw [TDxd, TDfn, TDgl]; exact xd_ok
  · rw [TDxc, TDgl]; exact xc_ok
theorem smD_ok : SumsOK Tryz.prog TD smN := by
  intro f args v h D σ s w H
  have := smN_ok f args v h D σ s w (by rw [T1gl, ← TDgl]; exact H)
  rw [T1gl] at this
  rw [TDgl]
  exact this
noncomputable def E2 : Ev := fEv smN TD 300
theorem E2_ok : EvOK Tryz.prog TD E2 := fEv_ok TDOK smD_ok 300
end Go.Proofs.GreatGiven
end
