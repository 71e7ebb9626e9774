/- An evaluator of the model, proved right: what it answers holds for every world and tape. -/
import Derived.Test.YticpmplmbobnpaaGreatDoorA2
import Derived.Laws.IdiomStrings
set_option linter.unusedVariables false
set_option linter.unusedSimpArgs false
section
namespace Go.Ai
noncomputable section
inductive AExit where
  | normal
  | exit (id : Nat)
  | ret
def AExit.conc : AExit → Exit
  | .normal => .normal
  | .exit id => .exit id
  | .ret => .ret
structure Out where
  ex : AExit
  ts : Tr AV
  ds : List ADef
  s : St
structure Ev where
  code : Code → Nat → Option Nat → Tr AV → List ADef → St → Option (List Out)
  call : Nat → List AV → St → Option (AV × St)
def Fw (ro : Option Nat) : Fence := { Fence.wide with round := ro }
theorem Fw_fn (ro : Option Nat) (f : FuncId) : (Fw ro).fn f := trivial
theorem Fw_depth (ro : Option Nat) (n : Nat) : (Fw ro).depth.isSome = true → 1 ≤ n := fun h => by simp [Fw, Fence.wide] at h
def roc (σ : Nat → Loc) (ro : Option Nat) : Option Nat := ro.map fun m => (σ m).block
def rcl (D : Nat → Prop) (ro : Option Nat) : Prop := ∀ m, ro = some m → D m
def Post (gl : Nat → Option (List AV)) (N : Nat) (D : Nat → Prop) (σ : Nat → Loc) (w : World) (n : Nat) (outs : List Out) : Exit → Act → World → Prop := fun e a w' =>
  ∃ o ∈ outs, ∃ D' σ', e = o.ex.conc ∧ a = acts σ' n o.ts (dconc σ' o.ds) ∧ HR gl D' σ' o.s w' ∧ Ext N D σ w D' σ' w' ∧ tcl D' o.ts ∧ dcl D' o.ds ∧ N ≤ o.s.next
structure EvOK (P : Program) (T : Tbl) (E : Ev) : Prop where
  code : ∀ c n ro ts ds s outs, E.code c n ro ts ds s = some outs → ∀ D σ w, HR T.gl D σ s w → tcl D ts → dcl D ds → rcl D ro →
    c.wpIn (Fw (roc σ ro)) 0 P (Post T.gl s.next D σ w n outs) (acts σ n ts (dconc σ ds)) w
  call : ∀ f args s v s', E.call f args s = some (v, s') → ∀ D σ w, HR T.gl D σ s w → cls D args → CallsIn (Fw none) 0 P f (concs σ args).toArray w
    fun e w' => ∃ D' σ', e = .returned (conc σ' v) ∧ HR T.gl D' σ' s' w' ∧ Ext s.next D σ w D' σ' w' ∧ v.cl D' ∧ s.next ≤ s'.next
section
variable {P : Program} {T : Tbl} {E : Ev} {gl : Nat → Option (List AV)} {D : Nat → Prop} {σ : Nat → Loc} {s : St} {w : World}
theorem callsIn_round {r r' : Option Nat} {n : Nat} {f : FuncId} {args : Array Value} {R : Ending → World → Prop} (h : CallsIn (Fw r) n P f args w R) : CallsIn (Fw r') n P f args w R := h
theorem Post.from {N n : Nat} {outs o1 : List Out} {D' : Nat → Prop} {σ' : Nat → Loc} {s' : St} {w' : World} {e : Exit} {a : Act} {w'' : World} (hE : Ext N D σ w D' σ' w') (hN : N ≤ s'.next) (hsub : ∀ o ∈ o1, o ∈ outs)
    (h : Post gl s'.next D' σ' w' n o1 e a w'') : Post gl N D σ w n outs e a w'' := by
  obtain ⟨o, ho, D2, σ2, h1, h2, h3, h4, h5, h6, h7⟩ := h
  exact ⟨o, hsub o ho, D2, σ2, h1, h2, h3, hE.trans h4 hN, h5, h6, Nat.le_trans hN h7⟩
def aYielded (ops : Array Oper) (n : Nat) (ts : Tr AV) (j : Nat) : Option Bool :=
  match (ops[j]?).bind (·.dst) with
  | some t => match Nat.blt t n with
    | true => match tget ts t with
      | .bool b => some b
      | _ => none
    | false => none
  | none => none
theorem yielded_tarr (ops : Array Oper) (n : Nat) (ts : Tr AV) : yielded ops (tarr σ n ts) = aYielded ops n ts := by
  funext j
  unfold yielded aYielded
  cases (ops[j]?).bind (·.dst) with
  | none => rfl
  | some t =>
    simp only [Option.bind_some]
    cases hb : Nat.blt t n with
    | true =>
      have hlt : t < n := by simpa [Nat.blt_eq] using hb
      rw [tarr_get σ ts hlt]
      cases tget ts t <;> rfl
    | false =>
      have hge : n ≤ t := by
        rcases Nat.lt_or_ge t n with h | h
        · rw [show Nat.blt t n = true by simpa [Nat.blt_eq] using h] at hb; cases hb
        · exact h
      have : (tarr σ n ts)[t]? = none := Array.getElem?_eq_none (by simp [tarr]; exact hge)
      rw [this]
def wantedA (ops : Array Oper) (n : Nat) (ts : Tr AV) (o : Oper) : Bool :=
  match o.guard with
  | none => true
  | some (j, want) => match aYielded ops n ts j with
    | some b => b == want
    | none => false
theorem wanted_tarr (ops : Array Oper) (n : Nat) (ts : Tr AV) (o : Oper) : Region.wanted o (yielded ops (tarr σ n ts)) = wantedA ops n ts o := by
  unfold Region.wanted wantedA
  rw [yielded_tarr]
  cases o.guard with
  | none => rfl
  | some p =>
    obtain ⟨j, b⟩ := p
    show (aYielded ops n ts j == some b) = match aYielded ops n ts j with | some x => x == b | none => false
    cases aYielded ops n ts j <;> rfl
def allOuts {α : Type} (f : α → Option (List Out)) : List α → Option (List Out)
  | [] => some []
  | [p] => f p
  | p :: q :: r => match f p, allOuts f (q :: r) with
    | some a, some b => some (a ++ b)
    | _, _ => none
theorem allOuts_mem {α : Type} {f : α → Option (List Out)} : ∀ {l : List α} {outs : List Out}, allOuts f l = some outs → ∀ p ∈ l, ∃ o1, f p = some o1 ∧ ∀ o ∈ o1, o ∈ outs
  | [], _, _, p, hp => by cases hp
  | [q], outs, h, p, hp => by
    simp only [List.mem_singleton] at hp
    subst hp
    exact ⟨outs, h, fun _ h => h⟩
  | q :: q' :: r, outs, h, p, hp => by
    simp only [allOuts] at h
    split at h
    case h_2 => cases h
    rename_i a b h1 h2
    cases h
    rcases List.mem_cons.1 hp with rfl | hp
    · exact ⟨a, h1, fun o ho => List.mem_append_left _ ho⟩
    · obtain ⟨o1, h3, h4⟩ := allOuts_mem h2 p hp
      exact ⟨o1, h3, fun o ho => List.mem_append_right _ (h4 o ho)⟩
def putAll (n : Nat) : List Tmp → List AV → Tr AV → Option (Tr AV)
  | [], [], ts => some ts
  | p :: ps, v :: vs, ts => match tput n (some p) v ts with
    | some ts' => putAll n ps vs ts'
    | none => none
  | _, _, _ => none
theorem putAll_acts {n : Nat} : ∀ {ps : List Tmp} {vs : List AV} {ts ts' : Tr AV}, putAll n ps vs ts = some ts' → ∀ (σ : Nat → Loc),
    (ps.zip (concs σ vs)).foldl (fun tmps (x : Tmp × Value) => tmps.setIfInBounds x.1 x.2) (tarr σ n ts) = tarr σ n ts' ∧ ps.length = vs.length
  | [], [], ts, ts', h, σ => by cases h; exact ⟨rfl, rfl⟩
  | p :: ps, v :: vs, ts, ts', h, σ => by
    simp only [putAll] at h
    split at h
    case h_2 => cases h
    rename_i t1 h1
    obtain ⟨h2, h3⟩ := putAll_acts h σ
    have h4 := congrArg Act.tmps (tput_acts h1 σ [])
    simp only [acts, Act.put] at h4
    refine ⟨?_, by simp [h3]⟩
    simp only [concs, List.zip_cons_cons, List.foldl_cons, h4, h2]
  | [], _ :: _, _, _, h, _ => by cases h
  | _ :: _, [], _, _, h, _ => by cases h
theorem putAll_cl {n : Nat} : ∀ {ps : List Tmp} {vs : List AV} {ts ts' : Tr AV}, putAll n ps vs ts = some ts' → tcl D ts → cls D vs → tcl D ts'
  | [], [], ts, ts', h, hc, _ => by cases h; exact hc
  | p :: ps, v :: vs, ts, ts', h, hc, hv => by
    simp only [putAll] at h
    split at h
    case h_2 => cases h
    rename_i t1 h1
    exact putAll_cl h (tput_cl h1 hc hv.1) hv.2
  | [], _ :: _, _, _, h, _, _ => by cases h
  | _ :: _, [], _, _, h, _, _ => by cases h
def LoopState.isBusy : LoopState → Bool
  | .busy => true
  | _ => false
def endJump : AExit → Option Code
  | .normal => none
  | .exit id => some (.exit id)
  | .ret => some .ret
def evRound (E : Ev) (m : Nat) (args : List AV) (s : St) : Option (AV × St) :=
  match s.get m with
  | some (.loop .ready _ nt ts params assign body _) =>
    match Nat.blt m 16000000, putAll nt params.toList args ts with
    | true, some ts1 => match E.code assign nt (some m) ts1 [] s with
      | some [⟨.normal, ts2, [], s2⟩] => match s2.get m with
        | some (.loop .ready p2 nt2 tt2 pa2 as2 bo2 dn2) => match E.code body nt (some m) ts2 [] (s2.put m (some (.loop .busy p2 nt2 tt2 pa2 as2 bo2 dn2))) with
          | some [⟨ex, _, [], s3⟩] => match s3.get m with
            | some (.loop _ _ nt3 tt3 pa3 as3 bo3 dn3) => match ex with
              | .normal => some (.bool true, s3.put m (some (.loop .ready none nt3 tt3 pa3 as3 bo3 dn3)))
              | ex => some (.bool false, s3.put m (some (.loop .done (endJump ex) nt3 tt3 pa3 as3 bo3 dn3)))
            | _ => none
          | _ => none
        | _ => none
      | _ => none
    | _, _ => none
  | _ => none
theorem run_getLoop {l : Nat} {r : Loop} (h : w.heap[l]? = some (.loop r)) : (Instr.getLoop l).run P w = .ok r w := by
  simp [Instr.getLoop, getObj, Sem.run_bind, Sem.run, h, Result.andThen]
theorem run_setLoop {l : Nat} {o : Obj} {r : Loop} (h : w.heap[l]? = some (.loop r)) : (setObj l o).run P w = .ok () { w with heap := w.heap.setIfInBounds l o } := by
  simp [setObj, Sem.run, h]
theorem HR.turnLoop (P : Program) (H : HR gl D σ s w) {m : Nat} (hD : D m) (hlt : m < 16000000) {st : LoopState} (st' : LoopState) {p : Option Code} (p' : Option Code) {nt : Nat} {ts : Tr AV} {pa : Array Tmp} {as bo : Code} {dn : Nat}
    (hg : s.get m = some (.loop st p nt ts pa as bo dn)) (N : Nat) : ∃ fn w', w.heap[(σ m).block]? = some (.loop { state := st, pending := p, fn := fn, tmps := tarr σ nt ts, params := pa, assign := as, body := bo, defers := (σ dn).block }) ∧
    (setObj (σ m).block (.loop { state := st', pending := p', fn := fn, tmps := tarr σ nt ts, params := pa, assign := as, body := bo, defers := (σ dn).block })).run P w = .ok () w' ∧
    HR gl D σ (s.put m (some (.loop st' p' nt ts pa as bo dn))) w' ∧ Ext N D σ w D σ w' := by
  obtain ⟨hd, ht, fn, h1⟩ := H.obj m hD _ hg
  refine ⟨fn, _, h1, run_setLoop h1, ?_⟩
  exact H.turn (o' := .loop st' p' nt ts pa as bo dn) hD hlt hg rfl rfl _ (fun es v e => by cases e)
    ⟨hd, ht, fn, by show (w.heap.setIfInBounds _ _)[_]? = _; rw [set_get (H.blk m hD), if_pos rfl]⟩ N
def CallPost (gl : Nat → Option (List AV)) (N : Nat) (D : Nat → Prop) (σ : Nat → Loc) (w : World) (v : AV) (s' : St) : Ending → World → Prop := fun e w' =>
  ∃ D' σ', e = .returned (conc σ' v) ∧ HR gl D' σ' s' w' ∧ Ext N D σ w D' σ' w' ∧ v.cl D' ∧ N ≤ s'.next
theorem evRound_ok (hE : EvOK P T E) {m : Nat} {args : List AV} {v : AV} {s' : St} (h : evRound E m args s = some (v, s')) (H : HR T.gl D σ s w) (hD : D m) (ha : cls D args) (r : Option Nat) :
    ∃ fn tmps assign body, (Instr.yield (σ m).block (concs σ args).toArray).run P w = .ok (.round (σ m).block fn tmps assign body) w ∧
      RoundIn (Fw r) 0 P (σ m).block fn tmps assign body w (CallPost T.gl s.next D σ w v s') := by
  unfold evRound at h
  split at h
  case h_2 => cases h
  rename_i p0 nt ts params assign body dn hg
  split at h
  case h_2 => cases h
  rename_i ts1 hlt hput
  have hlt : m < 16000000 := by simpa [Nat.blt_eq] using hlt
  split at h
  case h_2 => cases h
  rename_i ts2 s2 hassign
  split at h
  case h_2 => cases h
  rename_i p2 nt2 tt2 pa2 as2 bo2 dn2 hg2
  split at h
  case h_2 => cases h
  rename_i ex tsx s3 hbody
  split at h
  case h_2 => cases h
  rename_i st3 p3 nt3 tt3 pa3 as3 bo3 dn3 hg3
  obtain ⟨hd, ht, fn, h1⟩ := H.obj m hD _ hg
  obtain ⟨q1, q2⟩ := putAll_acts hput σ
  refine ⟨fn, tarr σ nt ts1, assign, body, ?_, ?_⟩
  · simp only [Instr.yield, Sem.run_bind, run_getLoop h1, Result.andThen_ok]
    have hsz : (concs σ args).toArray.size = params.size := by simp [concs_length, ← q2]
    rw [if_neg (by simpa using hsz)]
    have hf : (params.zip (concs σ args).toArray).foldl (fun tmps (x : Tmp × Value) => tmps.setIfInBounds x.1 x.2) (tarr σ nt ts) = tarr σ nt ts1 := by
      rw [← q1, ← Array.foldl_toList]
      simp
    simp only [Sem.run_pure]
    congr 2
  · refine roundIn_of_wpIn (F := Fw r) trivial ?_
    have k1 := hE.code _ _ _ _ _ _ _ hassign D σ w H (putAll_cl hput ht ha) (by intro d hd; cases hd) (by intro x hx; cases hx; exact hD)
    refine wpIn_mono (F := Fw (some (σ m).block)) k1 ?_
    rintro e a w1 ⟨o, ho, D1, σ1, e1, e2, H1, E1, tc1, dc1, n1⟩
    simp only [List.mem_singleton] at ho
    subst ho
    subst e1
    have hD1 : D1 m := E1.sub m hD
    have hs1 : σ1 m = σ m := E1.agree m hD
    obtain ⟨fn1, w2, g1, g2, H2, E2⟩ := H1.turnLoop P hD1 hlt .busy p2 hg2 s2.next
    show ∃ w₂, (Instr.beginRound (σ m).block).run P w1 = .ok () w₂ ∧ _
    rw [hs1] at g1 g2
    refine ⟨w2, ?_, ?_⟩
    · simp only [Instr.beginRound, Sem.run_bind, run_getLoop g1, Result.andThen_ok, g2]
      rfl
    · subst e2
      have k2 := hE.code _ _ _ _ _ _ _ hbody D1 σ1 _ H2 tc1 dc1 (by intro x hx; cases hx; exact hD1)
      simp only [roc, Option.map_some, hs1] at k2
      refine wpIn_mono (F := Fw (some (σ m).block)) k2 ?_
      rintro e a w3 ⟨o, ho, D3, σ3, e1, e2, H3, E3, tc3, dc3, n3⟩
      simp only [List.mem_singleton] at ho
      subst ho
      have hD3 : D3 m := E3.sub m hD1
      have hs3 : σ3 m = σ m := (E3.agree m hD1).trans hs1
      have hn3 : s.next ≤ s3.next := Nat.le_trans n1 n3
      have E13 : Ext s.next D σ w D3 σ3 w3 := (E1.trans (E2.trans E3 (Nat.le_refl _)) n1)
      have fin : ∀ st' p' b, (st' = if p'.isNone then .ready else .done) → (b = p'.isNone) → some (AV.bool b, s3.put m (some (.loop st' p' nt3 tt3 pa3 as3 bo3 dn3))) = some (v, s') →
          ∃ v0 w4, (Instr.endRound (σ m).block p').run P w3 = .ok v0 w4 ∧ CallPost T.gl s.next D σ w v s' (.returned v0) w4 := by
        intro st' p' b hst hb hr
        cases hr
        obtain ⟨fn3, w4, f1, f2, H4, E4⟩ := H3.turnLoop P hD3 hlt st' p' hg3 s3.next
        rw [hs3] at f1 f2
        refine ⟨.bool b, w4, ?_, D3, σ3, rfl, H4, E13.trans E4 hn3, trivial, hn3⟩
        simp only [Instr.endRound, Sem.run_bind, run_getLoop f1, Result.andThen_ok]
        rw [← hst, f2, hb]
        rfl
      cases ex with
      | normal =>
        simp only at h
        subst e1
        exact fin .ready none true rfl rfl h
      | exit id =>
        simp only at h
        subst e1
        exact fin .done (some (.exit id)) false rfl rfl h
      | ret =>
        simp only at h
        subst e1
        exact fin .done (some .ret) false rfl rfl h
end
end
end Go.Ai
end
section
namespace Go.Ai
noncomputable section
section
variable {P : Program} {T : Tbl} {E : Ev} {gl : Nat → Option (List AV)} {D : Nat → Prop} {σ : Nat → Loc} {s : St} {w : World}
def evBytes (T : Tbl) (s : St) (src dst : Nat) (x : AV) : Option (AV × St) :=
  match T.ti src, T.ti dst, x with
  | some (_, .string), some (_, .slice e), .str l => match T.ti e with
    | some (_, .int .u8) => match s.room with
      | true => some (.slice s.next 0 l.length l.length true, s.new (.cells (l.map fun b => .int .u8 b.toNat) 1 false false))
      | false => none
    | _ => none
  | _, _, _ => none
theorem evBytes_sim (hT : TblOK P T) (H : HR T.gl D σ s w) {src dst : Nat} {x v : AV} {s' : St} (h : evBytes T s src dst x = some (v, s')) :
    Sim P T.gl s.next D σ w (convert src dst (conc σ x)) v s' := by
  unfold evBytes at h
  split at h
  case h_2 => cases h
  rename_i is it e l hs hd
  split at h
  case h_2 => cases h
  rename_i ie he
  split at h
  case h_2 => cases h
  rename_i hr
  cases h
  have hr := room_lt hr
  have hrun := run_bytes_of_string (P := P) w src dst e ⟨l.toArray⟩ (hT.ti _ _ _ hs).2 (hT.ti _ _ _ hd).2 (hT.ti _ _ _ he).2
  have hsz : (⟨l.toArray⟩ : ByteArray).size = l.length := by simp [ByteArray.size]
  rw [hsz] at hrun
  have hge := grownCap_ge w l.length 0 e
  generalize grownCap w l.length 0 e = cap at hrun hge
  have hrow : bytesRow ⟨l.toArray⟩ cap = (l.map fun b => Value.int .u8 b.toNat).toArray ++ Array.replicate (cap - l.length) (.int .u8 0) := by
    simp [bytesRow, hsz]
  have hsize : (bytesRow ⟨l.toArray⟩ cap).size = cap := by rw [hrow]; simp; omega
  have hcl : ∀ D : Nat → Prop, cls D (l.map fun b => AV.int .u8 b.toNat) := fun D => (cls_iff _).2 fun v hv => by
    obtain ⟨b, _, rfl⟩ := List.mem_map.1 hv
    trivial
  obtain ⟨k1, k2⟩ := H.drew.add (w' := { w with drawn := w.drawn + 1, heap := w.heap.push (.cells (bytesRow ⟨l.toArray⟩ cap) e ((bytesRow ⟨l.toArray⟩ cap).size, (bytesRow ⟨l.toArray⟩ cap).size + 1)) }) hr
    (by show _ < (w.heap.push _).size; simp) (fun b hb => by show (w.heap.push _)[b]? = _; rw [Array.getElem?_push, if_neg (by have : b < w.heap.size := hb; omega)]) rfl rfl rfl
    (.cells (l.map fun b => .int .u8 b.toNat) 1 false false) ⟨w.heap.size, 0, cap - l.length⟩ rfl (by
      refine ⟨bytesRow ⟨l.toArray⟩ cap, e, ((bytesRow ⟨l.toArray⟩ cap).size, (bytesRow ⟨l.toArray⟩ cap).size + 1), by rw [upd_same]; show (w.heap.push _)[w.heap.size]? = _; simp, by rw [upd_same, hsize]; simp; omega, fun i v hi => ?_, hcl _, fun h => Bool.noConfusion h, ?_⟩
      · rw [upd_same, hrow]
        have hlt : i < l.length := by have := (List.getElem?_eq_some_iff.1 hi).1; simpa using this
        simp only [Nat.zero_add]
        rw [Array.getElem?_append, if_pos (by simpa using hlt)]
        rw [List.getElem?_map] at hi
        rw [List.getElem?_toArray, List.getElem?_map]
        cases hb : l[i]? with
        | none => rw [hb] at hi; cases hi
        | some b => rw [hb] at hi; cases hi; rfl
      · intro _ o _ h2
        rw [upd_same] at h2
        simp only [List.length_map, Nat.zero_add, Nat.mul_one] at h2
        simp only [hsize]
        omega)
  refine ⟨_, _, _, ?_, k1, (Ext.drewn s.next D σ w).trans k2 (Nat.le_refl _), .inr rfl, Nat.le_succ _⟩
  simp only [conc]
  rw [hrun]
  simp only [conc, upd_same, if_true, Nat.add_zero]
  have : l.length + (cap - l.length) = cap := by omega
  rw [this]
  rfl
noncomputable def evStep (E : Ev) (T : Tbl) (n : Nat) (ro : Option Nat) (ops : Array Oper) (o : Oper) (k : Tr AV → List ADef → St → Option (List Out)) (ts : Tr AV) (ds : List ADef) (s : St) : Option (List Out) :=
  let put (v : AV) (ds : List ADef) (s' : St) : Option (List Out) := match tput n o.dst v ts with
    | some ts' => k ts' ds s'
    | none => none
  match wantedA ops n ts o with
  | false => put (.tuple []) ds s
  | true => match evOp T n ts s o with
    | none => match o.op with
      | .convert a b x => match evOperand n ts x with
        | some v => match evBytes T s a b v with
          | some (r, s') => put r ds s'
          | none => none
        | none => none
      | _ => none
    | some (.vals l) => allOuts (fun p => put p.1 ds p.2) l
    | some (.skip s') => put (.tuple []) ds s'
    | some (.defer d) => match ro with
      | none => put (.tuple []) (d :: ds) s
      | some _ => none
    | some (.enter f args) => match E.call f args s with
      | some (v, s') => put v ds s'
      | none => none
    | some (.round m args) => match evRound E m args s with
      | some (v, s') => put v ds s'
      | none => none
noncomputable def evList (E : Ev) (T : Tbl) (n : Nat) (ro : Option Nat) (ops : Array Oper) : List Oper → Tr AV → List ADef → St → Option (List Out)
  | [], ts, ds, s => some [⟨.normal, ts, ds, s⟩]
  | o :: rest, ts, ds, s => evStep E T n ro ops o (evList E T n ro ops rest) ts ds s
theorem conc_undef (σ : Nat → Loc) : conc σ (.tuple []) = undef := rfl
theorem evStep_ok (hT : TblOK P T) (hE : EvOK P T E) {n : Nat} {ro : Option Nat} {ops : Array Oper} {o : Oper} {k : Tr AV → List ADef → St → Option (List Out)} {ts : Tr AV} {ds : List ADef} {outs : List Out}
    (h : evStep E T n ro ops o k ts ds s = some outs) (H : HR T.gl D σ s w) (hc : tcl D ts) (hd : dcl D ds) (hro : rcl D ro) {next : Act → World → Prop} {Q : Exit → Act → World → Prop}
    (hk : ∀ ts' ds' s' o1 D' σ' w', k ts' ds' s' = some o1 → (∀ x ∈ o1, x ∈ outs) → HR T.gl D' σ' s' w' → Ext s.next D σ w D' σ' w' → tcl D' ts' → dcl D' ds' → s.next ≤ s'.next → next (acts σ' n ts' (dconc σ' ds')) w') :
    if Region.wanted o (yielded ops (acts σ n ts (dconc σ ds)).tmps) then o.wpIn (Fw (roc σ ro)) 0 P (acts σ n ts (dconc σ ds)) w next Q
    else (∀ f, o.about P w (acts σ n ts (dconc σ ds)).eval = some f → (Fw (roc σ ro)).fn f) ∧ next ((acts σ n ts (dconc σ ds)).put o.dst undef) w := by
  have hw : Region.wanted o (yielded ops (acts σ n ts (dconc σ ds)).tmps) = wantedA ops n ts o := wanted_tarr ops n ts o
  rw [hw]
  unfold evStep at h
  -- what a value put leads to
  have put : ∀ {v : AV} {ds' : List ADef} {s' : St} {o1 : List Out} {D' : Nat → Prop} {σ' : Nat → Loc} {w' : World}, (match tput n o.dst v ts with | some ts' => k ts' ds' s' | none => none) = some o1 → (∀ x ∈ o1, x ∈ outs) →
      HR T.gl D' σ' s' w' → Ext s.next D σ w D' σ' w' → v.cl D' → dcl D' ds' → s.next ≤ s'.next → next ((acts σ' n ts (dconc σ' ds')).put o.dst (conc σ' v)) w' := by
    intro v ds' s' o1 D' σ' w' hp hsub H' hE' hv hd' hn
    split at hp
    case h_2 => cases hp
    rename_i ts' htp
    rw [tput_acts htp]
    exact hk ts' ds' s' o1 D' σ' w' hp hsub H' hE' (tput_cl htp (tcl_mono hE'.sub hc) hv) hd' hn
  -- the activation in a later world is the same one
  have same : ∀ {D' : Nat → Prop} {σ' : Nat → Loc} {w' : World}, Ext s.next D σ w D' σ' w' → acts σ n ts (dconc σ ds) = acts σ' n ts (dconc σ' ds) := by
    intro D' σ' w' hE'
    unfold acts
    rw [tarr_ext hE'.agree hc, dconc_ext hE'.agree hd]
  split at h
  · rename_i hwf
    rw [hwf]
    simp only [Bool.false_eq_true, if_false]
    exact ⟨fun _ _ => trivial, put h (fun _ h => h) H (Ext.refl _ _ _ _) (by simp [AV.cl, cls]) hd (Nat.le_refl _)⟩
  · rename_i hwt
    rw [hwt]
    simp only [if_true]
    refine ⟨fun _ _ => trivial, ?_⟩
    have hdef : ∀ q, evOp T n ts s o = some q → (∀ d, q ≠ .defer d) → o.semAt (Fw (roc σ ro)).round (acts σ n ts (dconc σ ds)).eval = execOp (acts σ n ts (dconc σ ds)).eval o := by
      intro q hq hnd
      refine Oper.semAt_eq _ _ _ fun c hop => ?_
      unfold evOp at hq
      rw [hop] at hq
      simp only at hq
      split at hq
      · split at hq
        · cases hq; exact hnd _ rfl
        · cases hq
      · cases hq
    split at h
    · split at h
      case h_2 => cases h
      rename_i a b x hop
      split at h
      case h_2 => cases h
      rename_i v hv
      split at h
      case h_2 => cases h
      rename_i r s' hby
      obtain ⟨D', σ', w', r1, H', E', c', n'⟩ := evBytes_sim hT H hby
      rw [Oper.semAt_eq _ _ _ (fun c hc' => by rw [hop] at hc'; cases hc')]
      have hrun : (execOp (acts σ n ts (dconc σ ds)).eval o).run P w = .ok (.value (conc σ' r)) w' := by
        unfold execOp
        simp only [hop, (evOperand_conc hv hc (dconc σ ds)).1, Sem.run_bind, r1, Result.andThen_ok, Sem.run_pure]
      rw [hrun]
      show next ((acts σ n ts (dconc σ ds)).put o.dst (conc σ' r)) w'
      rw [same E']
      exact put h (fun _ h => h) H' E' c' (dcl_mono E'.sub hd) n'
    · rename_i l hop
      have hok := evOp_ok hT H hc (dconc σ ds) hop
      rw [hdef _ hop (fun d e => by cases e)]
      obtain ⟨p, hp, D', σ', w', r1, H', E', c', n'⟩ := hok
      obtain ⟨o1, f1, f2⟩ := allOuts_mem h p hp
      rw [r1]
      show next ((acts σ n ts (dconc σ ds)).put o.dst (conc σ' p.1)) w'
      rw [same E']
      exact put f1 f2 H' E' c' (dcl_mono E'.sub hd) n'
    · rename_i s' hop
      have hok := evOp_ok hT H hc (dconc σ ds) hop
      rw [hdef _ hop (fun d e => by cases e)]
      obtain ⟨D', σ', w', r1, H', E', n'⟩ := hok
      rw [r1]
      show next ((acts σ n ts (dconc σ ds)).put o.dst undef) w'
      rw [same E']
      exact put h (fun _ h => h) H' E' (by simp [AV.cl, cls]) (dcl_mono E'.sub hd) n'
    · rename_i d hop
      split at h
      case h_2 => cases h
      have hok := evOp_ok hT H hc (dconc σ ds) hop
      obtain ⟨r1, cd⟩ := hok
      show o.uponIn _ 0 P _ next Q ((o.semAt none _).run P w)
      rw [Oper.semAt_none, r1]
      show next (({ acts σ n ts (dconc σ ds) with defers := d.conc σ :: (acts σ n ts (dconc σ ds)).defers } : Act).put o.dst undef) w
      exact put (v := .tuple []) (ds' := d :: ds) h (fun _ h => h) H (Ext.refl _ _ _ _) (by simp [AV.cl, cls]) (fun x hx => by rcases List.mem_cons.1 hx with rfl | hx; exact cd; exact hd x hx) (Nat.le_refl _)
    · rename_i f args hop
      have hok := evOp_ok hT H hc (dconc σ ds) hop
      rw [hdef _ hop (fun d e => by cases e)]
      obtain ⟨r1, ca⟩ := hok
      rw [r1]
      split at h
      case h_2 => cases h
      rename_i v s' hcall
      refine ⟨Fw_depth _ _, ?_⟩
      have hcl := hE.call _ _ _ _ _ hcall D σ w H ca
      refine CallsIn.mono (callsIn_round (r := none) (n := 0) hcl) ?_
      rintro e w' ⟨D', σ', rfl, H', E', c', n'⟩
      show next ((acts σ n ts (dconc σ ds)).put o.dst (conc σ' v)) w'
      rw [same E']
      exact put h (fun _ h => h) H' E' c' (dcl_mono E'.sub hd) n'
    · rename_i m args hop
      have hok := evOp_ok hT H hc (dconc σ ds) hop
      rw [hdef _ hop (fun d e => by cases e)]
      obtain ⟨r1, ca, hDm⟩ := hok
      split at h
      case h_2 => cases h
      rename_i v s' hround
      obtain ⟨fn, tmps, assign, body, r2, r3⟩ := evRound_ok hE hround H hDm ca (roc σ ro)
      rw [r1, r2]
      refine ⟨Fw_depth _ _, r3.mono ?_⟩
      rintro e w' ⟨D', σ', rfl, H', E', c', n'⟩
      show next ((acts σ n ts (dconc σ ds)).put o.dst (conc σ' v)) w'
      rw [same E']
      exact put h (fun _ h => h) H' E' c' (dcl_mono E'.sub hd) n'
theorem evList_ok (hT : TblOK P T) (hE : EvOK P T E) {n : Nat} {ro : Option Nat} {ops : Array Oper} {Q : Exit → Act → World → Prop} : ∀ (l : List Oper) {ts : Tr AV} {ds : List ADef} {s : St} {outs : List Out} {D : Nat → Prop} {σ : Nat → Loc} {w : World},
    evList E T n ro ops l ts ds s = some outs → HR T.gl D σ s w → tcl D ts → dcl D ds → rcl D ro → (∀ e a w', Post T.gl s.next D σ w n outs e a w' → Q e a w') →
    wpListIn (Fw (roc σ ro)) 0 P ops Q l (acts σ n ts (dconc σ ds)) w
  | [], ts, ds, s, outs, D, σ, w, h, H, hc, hd, hro, hQ => by
    cases h
    exact hQ _ _ _ ⟨_, .head _, D, σ, rfl, rfl, H, Ext.refl _ _ _ _, hc, hd, Nat.le_refl _⟩
  | o :: rest, ts, ds, s, outs, D, σ, w, h, H, hc, hd, hro, hQ => by
    simp only [wpListIn]
    simp only [evList] at h
    refine evStep_ok hT hE h H hc hd hro ?_
    intro ts' ds' s' o1 D' σ' w' h1 hsub H' E' c' d' n'
    have hr : roc σ' ro = roc σ ro := by
      cases ro with
      | none => rfl
      | some m => simp only [roc, Option.map_some, E'.agree m (hro m rfl)]
    have := evList_ok hT hE rest (Q := Q) h1 H' c' d' (fun m hm => E'.sub m (hro m hm)) (fun e a w'' hp => hQ _ _ _ (Post.from E' n' hsub hp))
    rw [hr] at this
    exact this
noncomputable def evRes (T : Tbl) (n : Nat) (ts : Tr AV) (s : St) : List ResultVar → Option (List AV)
  | [] => some []
  | .tmp t :: r => match Nat.blt t n, evRes T n ts s r with
    | true, some vs => some (tget ts t :: vs)
    | _, _ => none
  | .cell a t :: r => match Nat.blt a n with
    | true => match evLoad T s t (tget ts a), evRes T n ts s r with
      | some v, some vs => some (v :: vs)
      | _, _ => none
    | false => none
def pack : List AV → AV
  | [v] => v
  | vs => .tuple vs
def resOf (tmps : Array Value) : ResultVar → Sem Value
  | .tmp t => pure (tmps.getD t undef)
  | .cell a t => do loadVar t (← asAddr (tmps.getD a undef))
theorem evRes_run (hT : TblOK P T) {n : Nat} {ts : Tr AV} (H : HR T.gl D σ s w) (hc : tcl D ts) : ∀ {l : List ResultVar} {vs : List AV}, evRes T n ts s l = some vs →
    (l.mapM (resOf (tarr σ n ts))).run P w = .ok (concs σ vs) w ∧ cls D vs
  | [], vs, h => by cases h; exact ⟨rfl, trivial⟩
  | .tmp t :: r, vs, h => by
    simp only [evRes] at h
    split at h
    case h_2 => cases h
    rename_i us hlt h2
    have hlt : t < n := by simpa [Nat.blt_eq] using hlt
    cases h
    obtain ⟨e2, c2⟩ := evRes_run hT H hc h2
    refine ⟨?_, tget_cl hc t, c2⟩
    rw [List.mapM_cons]
    simp only [resOf, Array.getD_eq_getD_getElem?, tarr_get σ ts hlt, Option.getD_some, Sem.run_bind, Sem.run_pure, Result.andThen_ok, e2, concs]
  | .cell a t :: r, vs, h => by
    simp only [evRes] at h
    split at h
    case h_2 => cases h
    rename_i hlt
    have hlt : a < n := by simpa [Nat.blt_eq] using hlt
    split at h
    case h_2 => cases h
    rename_i v us h1 h2
    cases h
    obtain ⟨e2, c2⟩ := evRes_run hT H hc h2
    obtain ⟨x, hx⟩ := evLoad_addr h1 σ
    obtain ⟨e1, c1⟩ := evLoad_run hT H (tget_cl hc a) h1
    refine ⟨?_, c1, c2⟩
    rw [List.mapM_cons]
    rw [hx] at e1
    simp only [Instr.loadAt, Instr.sureAddr, Sem.run_bind, Sem.run_pure, Result.andThen_ok] at e1
    simp only [resOf, Array.getD_eq_getD_getElem?, tarr_get σ ts hlt, Option.getD_some, hx, asAddr, Sem.run_bind, Sem.run_pure, Result.andThen_ok, e1, e2, concs]
theorem results_run (hT : TblOK P T) {n : Nat} {ts : Tr AV} (H : HR T.gl D σ s w) (hc : tcl D ts) {fn : Func} {vs : List AV} (h : evRes T n ts s fn.results.toList = some vs) :
    (results fn (tarr σ n ts)).run P w = .ok (conc σ (pack vs)) w ∧ (pack vs).cl D := by
  obtain ⟨e, c⟩ := evRes_run hT H hc h
  have hm : (fn.results.mapM (resOf (tarr σ n ts))).run P w = .ok (concs σ vs).toArray w := by
    rw [← Array.toArray_toList (xs := fn.results), List.mapM_toArray]
    simp only [Sem.run_bind, e, Result.andThen_ok, Sem.run_pure, map_eq_pure_bind]
  have hf : results fn (tarr σ n ts) = (do let vs ← fn.results.mapM (resOf (tarr σ n ts)); pure (if h : vs.size = 1 then vs[0] else .tuple vs)) := by
    unfold results
    congr 1
  rw [hf]
  simp only [Sem.run_bind, hm, Result.andThen_ok, Sem.run_pure]
  cases vs with
  | nil => exact ⟨rfl, by simp [pack, AV.cl, cls]⟩
  | cons v r =>
    cases r with
    | nil => exact ⟨rfl, c.1⟩
    | cons u r => exact ⟨by simp [pack, conc, concs], by simpa [pack, AV.cl] using c⟩
end
end
end Go.Ai
end
section
namespace Go.Ai
noncomputable section
section
variable {P : Program} {T : Tbl} {E : Ev} {gl : Nat → Option (List AV)} {D : Nat → Prop} {σ : Nat → Loc} {s : St} {w : World}
def ofArgs : Nat → List AV → Tr AV → Tr AV
  | _, [], t => t
  | i, v :: vs, t => ofArgs (i + 1) vs (Tr.set 12 t i (some v))
theorem tget_ofArgs : ∀ (vs : List AV) (i : Nat) (t : Tr AV) (j : Nat), i + vs.length ≤ 4000 → tget (ofArgs i vs t) j = if i ≤ j then (vs[j - i]?).getD (tget t j) else tget t j
  | [], i, t, j, _ => by simp [ofArgs]
  | v :: vs, i, t, j, h => by
    simp only [List.length_cons] at h
    rw [ofArgs, tget_ofArgs vs (i + 1) _ j (by omega), tget_set (by omega)]
    by_cases hij : i = j
    · subst hij
      rw [if_neg (by omega), if_pos rfl, if_pos (Nat.le_refl _)]
      simp
    · by_cases hlt : i + 1 ≤ j
      · have a1 : i ≤ j := by omega
        have a2 : ¬ j = i := fun e => hij e.symm
        have a3 : j - i = (j - (i + 1)) + 1 := by omega
        simp only [hlt, a1, a2, if_true, if_false]
        rw [a3, List.getElem?_cons_succ]
      · have a1 : ¬ i ≤ j := by omega
        have a2 : ¬ j = i := fun e => hij e.symm
        simp only [hlt, a1, a2, if_false]
theorem ofArgs_cl : ∀ (vs : List AV) (i : Nat) (t : Tr AV), i + vs.length ≤ 4000 → tcl D t → cls D vs → tcl D (ofArgs i vs t)
  | [], _, _, _, ht, _ => ht
  | v :: vs, i, t, h, ht, hv => by
    simp only [List.length_cons] at h
    refine ofArgs_cl vs (i + 1) _ (by omega) ?_ hv.2
    intro j u hu
    by_cases hij : j = i
    · subst hij; rw [Tr.get_set_same _ 12 t j (by omega)] at hu; cases hu; exact hv.1
    · rw [Tr.get_set_other _ 12 t i j hij] at hu; exact ht j u hu
theorem tget_leaf (t : Nat) : tget .leaf t = .tuple [] := rfl
theorem tcl_leaf : tcl D .leaf := fun t v h => by cases h
theorem start_acts (σ : Nat → Loc) {args : List AV} {n : Nat} (h1 : args.length ≤ n) (h2 : n < 4000) :
    ({ tmps := (concs σ args).toArray ++ Array.replicate (n - (concs σ args).toArray.size) undef, defers := [] } : Act) = acts σ n (ofArgs 0 args .leaf) [] := by
  simp only [acts, Act.mk.injEq, and_true]
  apply Array.ext_getElem?
  intro i
  rcases Nat.lt_or_ge i n with hi | hi
  · rw [tarr_get σ _ hi, tget_ofArgs args 0 .leaf i (by omega), if_pos (Nat.zero_le _), tget_leaf]
    rw [Array.getElem?_append]
    simp only [List.size_toArray, concs_length, List.getElem?_toArray, concs_eq, List.getElem?_map, Nat.sub_zero, List.length_map]
    split
    · rename_i hlt
      rw [List.getElem?_eq_getElem hlt]; rfl
    · rename_i hge
      rw [List.getElem?_eq_none (by omega), Array.getElem?_replicate, if_pos (by omega)]; rfl
  · rw [Array.getElem?_eq_none (by simp [concs_length]; omega), Array.getElem?_eq_none (by simp [tarr]; omega)]
def isRecover : Op → Bool
  | .call { callee := .builtin .recover, .. } => true
  | _ => false
noncomputable def evSl (T : Tbl) (n : Nat) (ops : Array Oper) : List Oper → Tr AV → St → Option (Tr AV × St)
  | [], ts, s => some (ts, s)
  | o :: rest, ts, s =>
    let put (v : AV) (s' : St) : Option (Tr AV × St) := match tput n o.dst v ts with
      | some ts' => evSl T n ops rest ts' s'
      | none => none
    match wantedA ops n ts o with
    | false => put (.tuple []) s
    | true => match isRecover o.op with
      | true => put .nilIface s
      | false => match evOp T n ts s o with
        | some (.vals [(v, s')]) => put v s'
        | some (.skip s') => put (.tuple []) s'
        | _ => none
theorem evSl_ok (hT : TblOK P T) {n : Nat} {ops : Array Oper} {cs : List Frame} (hcs : recoverD cs = none) {Q : Exit → Act → List Frame → World → Prop} : ∀ (l : List Oper) (k : Nat), (∀ j, l[j]? = ops[k + j]?) →
    ∀ {ts : Tr AV} {s : St} {ts' : Tr AV} {s' : St} {D : Nat → Prop} {σ : Nat → Loc} {w : World}, evSl T n ops l ts s = some (ts', s') → HR T.gl D σ s w → tcl D ts →
    (∀ D' σ' w', HR T.gl D' σ' s' w' → Ext s.next D σ w D' σ' w' → tcl D' ts' → s.next ≤ s'.next → Q .normal (acts σ' n ts' []) cs w') →
    wpOpsSIn (Fw none) 0 P ops Q (List.range' k l.length) (acts σ n ts []) cs w
  | [], k, _, ts, s, ts', s', D, σ, w, h, H, hc, hQ => by
    cases h
    exact hQ D σ w H (Ext.refl _ _ _ _) hc (Nat.le_refl _)
  | o :: l, k, hl, ts, s, ts', s', D, σ, w, h, H, hc, hQ => by
    have h0 : ops[k]? = some o := by simpa using (hl 0).symm
    have hl' : ∀ j, l[j]? = ops[k + 1 + j]? := fun j => by have := hl (j + 1); simpa [Nat.add_assoc, Nat.add_comm 1 j] using this
    have hw : Region.wanted o (yielded ops (acts σ n ts []).tmps) = wantedA ops n ts o := wanted_tarr ops n ts o
    rw [List.length_cons, List.range'_succ]
    simp only [wpOpsSIn, h0, hw]
    refine ⟨fun _ _ => trivial, ?_⟩
    simp only [evSl] at h
    have put : ∀ {v : AV} {s1 : St} {D1 : Nat → Prop} {σ1 : Nat → Loc} {w1 : World}, (match tput n o.dst v ts with | some ts' => evSl T n ops l ts' s1 | none => none) = some (ts', s') →
        HR T.gl D1 σ1 s1 w1 → Ext s.next D σ w D1 σ1 w1 → v.cl D1 → s.next ≤ s1.next → wpOpsSIn (Fw none) 0 P ops Q (List.range' (k + 1) l.length) ((acts σ n ts []).put o.dst (conc σ1 v)) cs w1 := by
      intro v s1 D1 σ1 w1 hp H1 E1 hv hn
      split at hp
      case h_2 => cases hp
      rename_i t1 ht1
      have hsame : acts σ n ts [] = acts σ1 n ts [] := by unfold acts; rw [tarr_ext E1.agree hc]
      rw [hsame, tput_acts ht1]
      exact evSl_ok hT hcs l (k + 1) hl' hp H1 (tput_cl ht1 (tcl_mono E1.sub hc) hv) (fun D' σ' w' H' E' c' n' => hQ D' σ' w' H' (E1.trans E' hn) c' (Nat.le_trans hn n'))
    split at h
    · rename_i hwf
      rw [hwf]
      simp only [Bool.false_eq_true, if_false]
      exact put h H (Ext.refl _ _ _ _) (by simp [AV.cl, cls]) (Nat.le_refl _)
    · rename_i hwt
      rw [hwt]
      simp only [if_true]
      split at h
      · rename_i hrec
        have hrun : (execOp (acts σ n ts []).eval o).run P w = .ok .recover w := by
          unfold isRecover at hrec
          split at hrec
          · rename_i a b hop
            simp [execOp, hop, resolve, invoke, builtin]
          · cases hrec
        rw [hrun]
        simp only [hcs]
        exact put h H (Ext.refl _ _ _ _) trivial (Nat.le_refl _)
      · split at h
        · rename_i v s1 hop
          obtain ⟨p, hp, D1, σ1, w1, r1, H1, E1, c1, n1⟩ := evOp_ok hT H hc [] hop
          simp only [List.mem_singleton] at hp
          subst hp
          rw [r1]
          exact put h H1 E1 c1 n1
        · rename_i s1 hop
          obtain ⟨D1, σ1, w1, r1, H1, E1, n1⟩ := evOp_ok hT H hc [] hop
          rw [r1]
          exact put h H1 E1 (by simp [AV.cl, cls]) n1
        · cases h
noncomputable def evSc (T : Tbl) (n : Nat) : Code → Tr AV → St → Option (Tr AV × St)
  | .skip, ts, s => some (ts, s)
  | .region _ ops false, ts, s => evSl T n ops ops.toList ts s
  | .seq a b, ts, s => match evSc T n a ts s with
    | some (ts1, s1) => evSc T n b ts1 s1
    | none => none
  | .cond c a b, ts, s => match evOperand n ts c with
    | some (.bool true) => evSc T n a ts s
    | some (.bool false) => evSc T n b ts s
    | _ => none
  | _, _, _ => none
theorem evSc_ok (hT : TblOK P T) {n : Nat} {cs : List Frame} (hcs : recoverD cs = none) : ∀ (c : Code) {Q : Exit → Act → List Frame → World → Prop} {ts : Tr AV} {s : St} {ts' : Tr AV} {s' : St} {D : Nat → Prop} {σ : Nat → Loc} {w : World},
    evSc T n c ts s = some (ts', s') → HR T.gl D σ s w → tcl D ts →
    (∀ D' σ' w', HR T.gl D' σ' s' w' → Ext s.next D σ w D' σ' w' → tcl D' ts' → s.next ≤ s'.next → Q .normal (acts σ' n ts' []) cs w') → c.wpSIn (Fw none) 0 P Q (acts σ n ts []) cs w := by
  intro c
  induction c with
  | skip =>
    intro Q ts s ts' s' D σ w h H hc hQ
    cases h
    exact wpSIn_of_wpIn rfl (wpIn_skip (hQ D σ w H (Ext.refl _ _ _ _) hc (Nat.le_refl _)))
  | region id ops draw =>
    intro Q ts s ts' s' D σ w h H hc hQ
    cases draw with
    | true => cases h
    | false =>
      simp only [evSc] at h
      refine wpSIn_region ?_
      rw [List.range_eq_range', ← Array.length_toList]
      exact evSl_ok hT hcs ops.toList 0 (by simp) h H hc hQ
  | seq a b iha ihb =>
    intro Q ts s ts' s' D σ w h H hc hQ
    simp only [evSc] at h
    split at h
    · rename_i ts1 s1 h1
      refine wpSIn_seq (iha h1 H hc ?_)
      intro D1 σ1 w1 H1 E1 c1 n1
      exact ihb h H1 c1 (fun D' σ' w' H' E' c' n' => hQ D' σ' w' H' (E1.trans E' n1) c' (Nat.le_trans n1 n'))
    · cases h
  | cond c a b iha ihb =>
    intro Q ts s ts' s' D σ w h H hc hQ
    simp only [evSc] at h
    split at h
    · rename_i hv
      exact wpSIn_cond (t := true) (by rw [(evOperand_conc hv (σ := σ) hc []).1]; rfl) (iha h H hc hQ)
    · rename_i hv
      exact wpSIn_cond (t := false) (by rw [(evOperand_conc hv (σ := σ) hc []).1]; rfl) (ihb h H hc hQ)
    · cases h
  | _ => intro Q ts s ts' s' D σ w h; cases h
noncomputable def evDef (T : Tbl) (f : Nat) (args : List AV) (s : St) : Option St :=
  match T.fn f with
  | some fn => match fn.body with
    | some c => match Nat.ble args.length fn.ntmps && Nat.blt fn.ntmps 4000 with
      | true => match evSc T fn.ntmps c (ofArgs 0 args .leaf) s with
        | some (ts, s') => match evRes T fn.ntmps ts s' fn.results.toList with
          | some _ => some s'
          | none => none
        | none => none
      | false => none
    | none => none
  | none => none
noncomputable def evDefers (T : Tbl) : List ADef → St → Option St
  | [], s => some s
  | .mark r :: ds, s => match s.get r, Nat.blt r 16000000 with
    | some (.dfr true), true => evDefers T ds (s.put r (some (.dfr false)))
    | _, _ => none
  | .fn f cap args :: ds, s => match T.xd f (args ++ cap) s with
    | some s' => evDefers T ds s'
    | none => match evDef T f (args ++ cap) s with
      | some s' => evDefers T ds s'
      | none => none
def CallPost' (gl : Nat → Option (List AV)) (N : Nat) (D : Nat → Prop) (σ : Nat → Loc) (w : World) (v : AV) (s' : St) : Ending → World → Prop := CallPost gl N D σ w v s'
theorem evDefers_ok (hT : TblOK P T) {fn : Func} {n : Nat} {ts : Tr AV} {vs : List AV} {s1 : St} {R : Ending → World → Prop} : ∀ (ds : List ADef) {s : St} {D : Nat → Prop} {σ : Nat → Loc} {w : World} {tmps : Array Value},
    evDefers T ds s = some s1 → evRes T n ts s1 fn.results.toList = some vs → HR T.gl D σ s w → tcl D ts → dcl D ds → tmps = tarr σ n ts →
    (∀ D' σ' w', HR T.gl D' σ' s1 w' → Ext s.next D σ w D' σ' w' → (pack vs).cl D' → s.next ≤ s1.next → R (.returned (conc σ' (pack vs))) w') →
    LeavesInM (Fw none) 0 P fn tmps R (dconc σ ds) .returning w
  | [], s, D, σ, w, tmps, h, hr, H, hc, hd, ht, hR => by
    cases h
    obtain ⟨e, c⟩ := results_run hT H hc hr
    exact ⟨_, by rw [ht]; exact e, hR D σ w H (Ext.refl _ _ _ _) c (Nat.le_refl _)⟩
  | .mark r :: ds, s, D, σ, w, tmps, h, hr, H, hc, hd, ht, hR => by
    simp only [evDefers] at h
    split at h
    case h_2 => cases h
    rename_i hg hlt
    have hlt : r < 16000000 := by simpa [Nat.blt_eq] using hlt
    have hD : D r := hd _ (.head _)
    have h1 : w.heap[(σ r).block]? = some (.deferred (some [])) := H.obj r hD _ hg
    obtain ⟨k1, k2⟩ := H.turn (o' := .dfr false) hD hlt hg rfl rfl (.deferred none) (fun es v e => by cases e)
      (by show (w.heap.setIfInBounds _ _)[_]? = _; rw [set_get (H.blk r hD), if_pos rfl]; rfl) s.next
    refine ⟨by simp, .inl ⟨(σ r).block, _, rfl, ?_, evDefers_ok hT ds h hr k1 hc (fun d hd' => hd d (.tail _ hd')) ht fun D' σ' w' H' E' c' n' => hR D' σ' w' H' (k2.trans E' (Nat.le_refl _)) c' n'⟩⟩
    simp [Instr.takeDeferred, getObj, setObj, Sem.run_bind, Sem.run, h1, Result.andThen]
  | .fn f cap args :: ds, s, D, σ, w, tmps, h, hr, H, hc, hd, ht, hR => by
    simp only [evDefers] at h
    split at h
    · rename_i s2 hxd
      obtain ⟨ccap, cargs⟩ : cls D cap ∧ cls D args := hd _ (.head _)
      obtain ⟨⟨dfn, hfn⟩, hx⟩ := hT.xd _ _ _ _ hxd
      have hca : (concs σ args).toArray ++ (concs σ cap).toArray = (concs σ (args ++ cap)).toArray := by simp [concs_append]
      have hinv : (invoke (.fn (.func f) (concs σ cap).toArray) (concs σ args).toArray).run P w = .ok (.enter f (concs σ (args ++ cap)).toArray) w := by
        simp only [invoke, hca]
        exact callFunc_enter hT hfn _
      refine ⟨by simp, .inr ⟨Fw_depth _ _, _, _, f, _, rfl, hinv, fun _ _ => trivial, ?_⟩⟩
      refine CallsDIn.mono (hx D σ w H (cls_append cargs ccap)) ?_
      rintro e u' w' ⟨rfl, ⟨v, rfl⟩, D', σ', H', E', n'⟩
      have hd2 : dcl D ds := fun d hd' => hd d (.tail _ hd')
      show LeavesInM (Fw none) 0 P fn tmps R (dconc σ ds) .returning w'
      rw [← dconc_ext E'.agree hd2]
      exact evDefers_ok hT ds h hr H' (tcl_mono E'.sub hc) (dcl_mono E'.sub hd2) (by rw [tarr_ext E'.agree hc]; exact ht) fun D3 σ3 w3 H3 E3 c3 n3 => hR D3 σ3 w3 H3 (E'.trans E3 n') c3 (Nat.le_trans n' n3)
    split at h
    case h_2 => cases h
    rename_i s2 hdef
    obtain ⟨ccap, cargs⟩ : cls D cap ∧ cls D args := hd _ (.head _)
    unfold evDef at hdef
    split at hdef
    case h_2 => cases hdef
    rename_i dfn hfn
    split at hdef
    case h_2 => cases hdef
    rename_i c hbody
    split at hdef
    case h_2 => cases hdef
    rename_i hlen
    simp only [Bool.and_eq_true, Nat.ble_eq, Nat.blt_eq] at hlen
    split at hdef
    case h_2 => cases hdef
    rename_i ts2 s3 hsc
    split at hdef
    case h_2 => cases hdef
    rename_i vs2 hres2
    cases hdef
    obtain ⟨hP, hnm, _⟩ := hT.fn f dfn hfn
    have hca : (concs σ args).toArray ++ (concs σ cap).toArray = (concs σ (args ++ cap)).toArray := by simp [concs_append]
    have hinv : (invoke (.fn (.func f) (concs σ cap).toArray) (concs σ args).toArray).run P w = .ok (.enter f (concs σ (args ++ cap)).toArray) w := by
      simp only [invoke, hca]
      exact callFunc_enter hT hfn _
    refine ⟨by simp, .inr ⟨Fw_depth _ _, _, _, f, _, rfl, hinv, fun _ _ => trivial, ?_⟩⟩
    refine callsDIn_of_wpSIn hP hbody trivial fun c₀ cs hu => ?_
    rw [start_acts σ hlen.1 hlen.2]
    have hcs : recoverD (c₀ :: cs) = none := by simp [recoverD, hu]
    refine evSc_ok hT hcs c hsc H (ofArgs_cl _ 0 .leaf (by omega) tcl_leaf (cls_append cargs ccap)) ?_
    intro D' σ' w' H' E' c' n'
    obtain ⟨e2, c2⟩ := results_run hT H' c' hres2
    refine ⟨rfl, .returning, by rw [← hu], _, e2, ?_⟩
    show LeavesInM (Fw none) 0 P fn tmps R (dconc σ ds) .returning w'
    have hd2 : dcl D ds := fun d hd' => hd d (.tail _ hd')
    rw [← dconc_ext E'.agree hd2]
    exact evDefers_ok hT ds h hr H' (tcl_mono E'.sub hc) (dcl_mono E'.sub hd2) (by rw [tarr_ext E'.agree hc]; exact ht) fun D3 σ3 w3 H3 E3 c3 n3 => hR D3 σ3 w3 H3 (E'.trans E3 n') c3 (Nat.le_trans n' n3)
end
end
end Go.Ai
end
section
namespace Go.Ai
noncomputable section
mutual
def eqAV : AV → AV → Bool
  | .bool a, .bool b => a == b
  | .int k a, .int j b => decide (k = j) && decide (a = b)
  | .str a, .str b => beqB a b
  | .nilPtr, .nilPtr | .nilSlice, .nilSlice | .nilMap, .nilMap | .nilFunc, .nilFunc | .nilIface, .nilIface => true
  | .ptr a b, .ptr c d => Nat.beq a c && Nat.beq b d
  | .glob a b, .glob c d => Nat.beq a c && Nat.beq b d
  | .slice n o l c f, .slice n' o' l' c' f' => Nat.beq n n' && Nat.beq o o' && Nat.beq l l' && Nat.beq c c' && f == f'
  | .edge n o l z, .edge n' o' l' z' => Nat.beq n n' && Nat.beq o o' && Nat.beq l l' && Nat.beq z z'
  | .map n, .map m => Nat.beq n m
  | .clo f a b, .clo g c d => decide (f = g) && eqAVs a c && eqAVs b d
  | .iface t v, .iface u x => decide (t = u) && eqAV v x
  | .agg a, .agg b => eqAVs a b
  | .tuple a, .tuple b => eqAVs a b
  | .it n, .it m => Nat.beq n m
  | .yld n, .yld m => Nat.beq n m
  | _, _ => false
def eqAVs : List AV → List AV → Bool
  | [], [] => true
  | a :: as, b :: bs => eqAV a b && eqAVs as bs
  | _, _ => false
end
mutual
theorem eqAV_eq : ∀ {a b : AV}, eqAV a b = true → a = b
  | a, b, h => by
    cases a <;> cases b <;> simp only [eqAV, Bool.and_eq_true, decide_eq_true_eq, beq_iff_eq, Nat.beq_eq, beqB_iff, Bool.false_eq_true] at h <;> first
      | rfl
      | (subst h; rfl)
      | (obtain ⟨rfl, rfl⟩ := h; rfl)
      | (obtain ⟨⟨⟨⟨rfl, rfl⟩, rfl⟩, rfl⟩, rfl⟩ := h; rfl)
      | (obtain ⟨⟨⟨rfl, rfl⟩, rfl⟩, rfl⟩ := h; rfl)
      | (obtain ⟨⟨rfl, h1⟩, h2⟩ := h; rw [eqAVs_eq h1, eqAVs_eq h2])
      | (obtain ⟨rfl, h1⟩ := h; rw [eqAV_eq h1])
      | (rw [eqAVs_eq h])
theorem eqAVs_eq : ∀ {a b : List AV}, eqAVs a b = true → a = b
  | [], [], _ => rfl
  | a :: as, b :: bs, h => by
    simp only [eqAVs, Bool.and_eq_true] at h
    rw [eqAV_eq h.1, eqAVs_eq h.2]
  | [], _ :: _, h => by cases h
  | _ :: _, [], h => by cases h
end
def eqRows : List (List UInt8 × AV) → List (List UInt8 × AV) → Bool
  | [], [] => true
  | a :: as, b :: bs => beqB a.1 b.1 && eqAV a.2 b.2 && eqRows as bs
  | _, _ => false
theorem eqRows_eq : ∀ {a b : List (List UInt8 × AV)}, eqRows a b = true → a = b
  | [], [], _ => rfl
  | a :: as, b :: bs, h => by
    simp only [eqRows, Bool.and_eq_true, beqB_iff] at h
    obtain ⟨⟨h1, h2⟩, h3⟩ := h
    rw [eqRows_eq h3, Prod.ext h1 (eqAV_eq h2)]
  | [], _ :: _, h => by cases h
  | _ :: _, [], h => by cases h
def eqObj : AObj → AObj → Bool
  | .cells c n a b, .cells c' n' a' b' => eqAVs c c' && Nat.beq n n' && a == a' && b == b'
  | .map es v, .map es' v' => eqRows es es' && Nat.beq v v'
  | .iter m v l x, .iter m' v' l' x' => Nat.beq m m' && Nat.beq v v' && eqRows l l' && (match x, x' with
    | none, none => true
    | some a, some b => beqB a.1 b.1 && eqAV a.2 b.2
    | _, _ => false)
  | .dfr a, .dfr b => a == b
  | _, _ => false
theorem eqObj_eq : ∀ {a b : AObj}, eqObj a b = true → a = b
  | .cells c n a b, .cells c' n' a' b', h => by
    simp only [eqObj, Bool.and_eq_true, beq_iff_eq, Nat.beq_eq] at h
    obtain ⟨⟨⟨h1, rfl⟩, rfl⟩, rfl⟩ := h
    rw [eqAVs_eq h1]
  | .map es v, .map es' v', h => by
    simp only [eqObj, Bool.and_eq_true, Nat.beq_eq] at h
    obtain ⟨h1, rfl⟩ := h
    rw [eqRows_eq h1]
  | .iter m v l x, .iter m' v' l' x', h => by
    simp only [eqObj, Bool.and_eq_true, Nat.beq_eq] at h
    obtain ⟨⟨⟨rfl, rfl⟩, h1⟩, h2⟩ := h
    rw [eqRows_eq h1]
    cases x with
    | none => cases x' with
      | none => rfl
      | some b => cases h2
    | some a => cases x' with
      | none => cases h2
      | some b =>
        simp only [Bool.and_eq_true, beqB_iff] at h2
        rw [Prod.ext h2.1 (eqAV_eq h2.2)]
  | .dfr a, .dfr b, h => by simp only [eqObj, beq_iff_eq] at h; rw [h]
  | .cells .., .map .., h | .cells .., .iter .., h | .cells .., .loop .., h | .cells .., .dfr .., h => by cases h
  | .map .., .cells .., h | .map .., .iter .., h | .map .., .loop .., h | .map .., .dfr .., h => by cases h
  | .iter .., .cells .., h | .iter .., .map .., h | .iter .., .loop .., h | .iter .., .dfr .., h => by cases h
  | .loop .., .cells .., h | .loop .., .map .., h | .loop .., .iter .., h | .loop .., .loop .., h | .loop .., .dfr .., h => by cases h
  | .dfr .., .cells .., h | .dfr .., .map .., h | .dfr .., .iter .., h | .dfr .., .loop .., h => by cases h
def eqTr : Tr AObj → Tr AObj → Bool
  | .leaf, .leaf => true
  | .node l v r, .node l' v' r' => eqTr l l' && eqTr r r' && (match v, v' with
    | none, none => true
    | some a, some b => eqObj a b
    | _, _ => false)
  | _, _ => false
theorem eqTr_eq : ∀ {a b : Tr AObj}, eqTr a b = true → a = b
  | .leaf, .leaf, _ => rfl
  | .node l v r, .node l' v' r', h => by
    simp only [eqTr, Bool.and_eq_true] at h
    obtain ⟨⟨h1, h2⟩, h3⟩ := h
    rw [eqTr_eq h1, eqTr_eq h2]
    cases v with
    | none => cases v' with
      | none => rfl
      | some b => cases h3
    | some a => cases v' with
      | none => cases h3
      | some b => rw [eqObj_eq h3]
  | .leaf, .node .., h => by cases h
  | .node .., .leaf, h => by cases h
def eqRes (a b : AV × St) : Bool := eqAV a.1 b.1 && Nat.beq a.2.next b.2.next && eqTr a.2.heap b.2.heap
theorem eqRes_eq {a b : AV × St} (h : eqRes a b = true) : a = b := by
  obtain ⟨v, ⟨hp, nx⟩⟩ := a
  obtain ⟨v', ⟨hp', nx'⟩⟩ := b
  simp only [eqRes, Bool.and_eq_true, Nat.beq_eq] at h
  obtain ⟨⟨h1, rfl⟩, h2⟩ := h
  rw [eqAV_eq h1, eqTr_eq h2]
section
variable {P : Program} {T : Tbl} {E : Ev} {gl : Nat → Option (List AV)} {D : Nat → Prop} {σ : Nat → Loc} {s : St} {w : World}
noncomputable def evLeave (T : Tbl) (fn : Func) (o : Out) : Option (AV × St) :=
  match o.ex with
  | .exit _ => none
  | _ => match evDefers T o.ds o.s with
    | some s1 => match evRes T fn.ntmps o.ts s1 fn.results.toList with
      | some vs => some (pack vs, s1)
      | none => none
    | none => none
noncomputable def mergeOuts (T : Tbl) (fn : Func) : List Out → Option (AV × St)
  | [] => none
  | [o] => evLeave T fn o
  | o :: o2 :: r => match evLeave T fn o, mergeOuts T fn (o2 :: r) with
    | some a, some b => match eqRes a b with
      | true => some b
      | false => none
    | _, _ => none
theorem mergeOuts_mem {fn : Func} : ∀ {l : List Out} {r : AV × St}, mergeOuts T fn l = some r → ∀ o ∈ l, evLeave T fn o = some r
  | [], _, h, _, _ => by cases h
  | [o], r, h, x, hx => by simp only [List.mem_singleton] at hx; subst hx; exact h
  | o :: o2 :: l, r, h, x, hx => by
    simp only [mergeOuts] at h
    split at h
    case h_2 => cases h
    rename_i a b h1 h2
    split at h
    case h_2 => cases h
    rename_i he
    cases h
    rcases List.mem_cons.1 hx with rfl | hx
    · rw [h1, eqRes_eq he]
    · exact mergeOuts_mem h2 x hx
noncomputable def evFun0 (E : Ev) (T : Tbl) (f : Nat) (args : List AV) (s : St) : Option (AV × St) :=
  match T.fn f with
  | some fn => match fn.body with
    | some c => match Nat.ble args.length fn.ntmps && Nat.blt fn.ntmps 4000 with
      | true => match E.code c fn.ntmps none (ofArgs 0 args .leaf) [] s with
        | some outs => mergeOuts T fn outs
        | none => none
      | false => none
    | none => none
  | none => none
theorem evFun0_ok (hT : TblOK P T) (hE : EvOK P T E) {f : Nat} {args : List AV} {v : AV} {s' : St} (h : evFun0 E T f args s = some (v, s')) (H : HR T.gl D σ s w) (ha : cls D args) :
    CallsIn (Fw none) 0 P f (concs σ args).toArray w (CallPost T.gl s.next D σ w v s') := by
  unfold evFun0 at h
  split at h
  case h_2 => cases h
  rename_i fn hfn
  split at h
  case h_2 => cases h
  rename_i c hbody
  split at h
  case h_2 => cases h
  rename_i hlen
  simp only [Bool.and_eq_true, Nat.ble_eq, Nat.blt_eq] at hlen
  split at h
  case h_2 => cases h
  rename_i outs hcode
  obtain ⟨hP, _, _⟩ := hT.fn f fn hfn
  refine callsIn_of_wp_marks hP hbody trivial ?_
  rw [start_acts σ hlen.1 hlen.2]
  have hw := hE.code _ _ _ _ _ _ _ hcode D σ w H (ofArgs_cl _ 0 .leaf (by omega) tcl_leaf ha) (by intro d hd; cases hd) (by intro m hm; cases hm)
  refine wpIn_mono (F := Fw none) hw ?_
  rintro e a w1 ⟨o, ho, D1, σ1, e1, e2, H1, E1, c1, d1, n1⟩
  have hl := mergeOuts_mem h o ho
  have key : ∀ (hx : o.ex = .normal ∨ o.ex = .ret), LeavesInM (Fw none) 0 P fn a.tmps (CallPost T.gl s.next D σ w v s') a.defers .returning w1 := by
    intro hx
    have hl2 : (match evDefers T o.ds o.s with
      | some s1 => match evRes T fn.ntmps o.ts s1 fn.results.toList with
        | some vs => some (pack vs, s1)
        | none => none
      | none => none) = some (v, s') := by
      unfold evLeave at hl
      rcases hx with hx | hx <;> (rw [hx] at hl; exact hl)
    split at hl2
    case h_2 => cases hl2
    rename_i s1 hdf
    split at hl2
    case h_2 => cases hl2
    rename_i vs hres
    cases hl2
    rw [e2]
    refine evDefers_ok hT o.ds hdf hres H1 c1 d1 rfl fun D' σ' w' H' E' c' n' => ?_
    exact ⟨D', σ', rfl, H', E1.trans E' n1, c', Nat.le_trans n1 n'⟩
  rw [e1]
  cases hx : o.ex with
  | normal => exact key (.inl hx)
  | ret => exact key (.inr hx)
  | exit id => unfold evLeave at hl; rw [hx] at hl; cases hl
noncomputable def evFun (E : Ev) (T : Tbl) (f : Nat) (args : List AV) (s : St) : Option (AV × St) :=
  match T.xc f args s with
  | some r => some r
  | none => evFun0 E T f args s
theorem evFun_ok (hT : TblOK P T) (hE : EvOK P T E) {f : Nat} {args : List AV} {v : AV} {s' : St} (h : evFun E T f args s = some (v, s')) (H : HR T.gl D σ s w) (ha : cls D args) :
    CallsIn (Fw none) 0 P f (concs σ args).toArray w (CallPost T.gl s.next D σ w v s') := by
  unfold evFun at h
  split at h
  · rename_i r hr
    cases h
    exact hT.xc f args s v s' hr D σ w H ha
  · exact evFun0_ok hT hE h H ha
end
end
end Go.Ai
end
section
namespace Go.Ai
noncomputable section
theorem wpIn_loop_down {F : Fence} {n : Nat} {P : Program} {Q : Exit → Act → World → Prop} {c : Code} {L : Nat → Act → World → Prop} (h0 : ∀ a w, ¬ L 0 a w)
    (hs : ∀ m a w, L (m + 1) a w → c.wpIn F n P (Exit.then (L m) Q) a w) (m : Nat) (a : Act) (w : World) (h : L m a w) : (Code.loop c).wpIn F n P Q a w := by
  intro b k cs hro hb hr
  have key : ∀ m a w, L m a w → ∃ e a' w', Q e a' w' ∧ ArrivesIn (Machine.fenced P F) P (lone (b.atR a (.code c :: .inLoop c :: k)) cs w) b k cs e a' w' := by
    intro m
    induction m with
    | zero => exact fun a w h => (h0 a w h).elim
    | succ m ih =>
      intro a w hI
      obtain ⟨e, a₁, w₁, hq, harr⟩ := hs m a w hI b (.inLoop c :: k) cs hro hb hr
      cases e with
      | normal =>
        obtain ⟨e₂, a₂, w₂, hq₂, harr₂⟩ := ih a₁ w₁ hq
        exact ⟨e₂, a₂, w₂, hq₂, .of_steps (StepsIn.trans harr (.one (fenced_calm hb hr rfl) stepR_inLoop)) harr₂⟩
      | exit id => exact ⟨_, a₁, w₁, hq, .pass (x := .inLoop c) rfl (fun _ _ => .inl (by simp)) harr⟩
      | goto l => exact ⟨_, a₁, w₁, hq, .pass (x := .inLoop c) rfl (fun _ _ => .inl (by simp)) harr⟩
      | ret => exact ⟨_, a₁, w₁, hq, .pass (x := .inLoop c) rfl (fun _ _ => .inl (by simp)) harr⟩
      | panic ch => exact ⟨_, a₁, w₁, hq, .pass (x := .inLoop c) rfl (fun _ _ => .inl (by simp)) harr⟩
      | outgrown => exact ⟨_, a₁, w₁, hq, .pass (x := .inLoop c) rfl (fun _ _ => .inl (by simp)) harr⟩
  obtain ⟨e, a', w', hq, harr⟩ := key m a w h
  exact ⟨e, a', w', hq, .of_steps (.one (fenced_calm hb hr rfl) stepR_loop) harr⟩
section
variable {P : Program} {T : Tbl} {E : Ev} {gl : Nat → Option (List AV)} {D : Nat → Prop} {σ : Nat → Loc} {s : St} {w : World}
def onward (k : Tr AV → List ADef → St → Option (List Out)) (o : Out) : Option (List Out) :=
  match o.ex with
  | .normal => k o.ts o.ds o.s
  | _ => some [o]
def evLoop (E : Ev) (c : Code) (n : Nat) (ro : Option Nat) : Nat → Tr AV → List ADef → St → Option (List Out)
  | 0, _, _, _ => none
  | m + 1, ts, ds, s => match E.code c n ro ts ds s with
    | some outs => allOuts (onward (evLoop E c n ro m)) outs
    | none => none
def unblock (id : Nat) (o : Out) : Out :=
  match o.ex with
  | .exit id' => match Nat.beq id' id with
    | true => { o with ex := .normal }
    | false => o
  | _ => o
def evRangeFunc (E : Ev) (T : Tbl) (g : Operand) (ps : Array Tmp) (assign body : Code) (n : Nat) (ts : Tr AV) (ds : List ADef) (s : St) : Option (List Out) :=
  match evOperand n ts g with
  | some (.clo f first cap) => match T.fn f, Nat.blt (s.next + 2) 16000000 with
    | some _, true =>
      let s2 := (s.new (.dfr true)).new (.loop .ready none n ts ps assign body s.next)
      match E.call f (first ++ [.yld (s.next + 1)] ++ cap) s2 with
      | some (_, s3) => match s3.get (s.next + 1) with
        | some (.loop st pending nt3 tt3 pa3 as3 bo3 dn3) => match LoopState.isBusy st with
          | true => none
          | false =>
            let s4 := (s3.put (s.next + 1) (some (.loop .exhausted pending nt3 tt3 pa3 as3 bo3 dn3))).put (s.next + 1) none
            match pending with
            | none => some [⟨.normal, ts, .mark s.next :: ds, s4⟩]
            | some c => E.code c n none ts (.mark s.next :: ds) s4
        | _ => none
      | none => none
    | _, _ => none
  | _ => none
noncomputable def evCode (E : Ev) (T : Tbl) (draw : Array Oper → Nat → Option Nat → Tr AV → List ADef → St → Option (List Out)) (c : Code) (n : Nat) (ro : Option Nat) (ts : Tr AV) (ds : List ADef) (s : St) : Option (List Out) :=
  match c with
  | .skip => some [⟨.normal, ts, ds, s⟩]
  | .region _ ops dr => match dr with
    | false => evList E T n ro ops ops.toList ts ds s
    | true => draw ops n ro ts ds s
  | .seq a b => match E.code a n ro ts ds s with
    | some outs => allOuts (onward (E.code b n ro)) outs
    | none => none
  | .cond x a b => match evOperand n ts x with
    | some (.bool true) => E.code a n ro ts ds s
    | some (.bool false) => E.code b n ro ts ds s
    | _ => none
  | .block id c => match E.code c n ro ts ds s with
    | some outs => some (outs.map (unblock id))
    | none => none
  | .loop c => evLoop E c n ro 100000 ts ds s
  | .rangeFunc g ps as bo => match ro with
    | none => evRangeFunc E T g ps as bo n ts ds s
    | some _ => none
  | .exit id => some [⟨.exit id, ts, ds, s⟩]
  | .label _ => some [⟨.normal, ts, ds, s⟩]
  | .ret => some [⟨.ret, ts, ds, s⟩]
  | .scope _ => none
  | .goto _ => none
  | .refuse _ => none
theorem roc_ext {ro : Option Nat} (hro : rcl D ro) {σ' : Nat → Loc} (h : ∀ n, D n → σ' n = σ n) : roc σ' ro = roc σ ro := by
  cases ro with
  | none => rfl
  | some m => simp only [roc, Option.map_some, h m (hro m rfl)]
theorem onward_ok {n : Nat} {ro : Option Nat} {k : Tr AV → List ADef → St → Option (List Out)} {outs all : List Out} {Q : Exit → Act → World → Prop} {K : Act → World → Prop}
    (h : allOuts (onward k) outs = some all) (hro : rcl D ro)
    (hQ : ∀ e a w', Post T.gl s.next D σ w n all e a w' → Q e a w')
    (hk : ∀ o1 ts ds s' D' σ' w', k ts ds s' = some o1 → (∀ x ∈ o1, x ∈ all) → HR T.gl D' σ' s' w' → Ext s.next D σ w D' σ' w' → tcl D' ts → dcl D' ds → rcl D' ro → roc σ' ro = roc σ ro → s.next ≤ s'.next → K (acts σ' n ts (dconc σ' ds)) w')
    {e : Exit} {a : Act} {w' : World} (hp : Post T.gl s.next D σ w n outs e a w') : Exit.then K Q e a w' := by
  obtain ⟨o, ho, D', σ', e1, e2, H', E', c', d', n'⟩ := hp
  obtain ⟨o1, f1, f2⟩ := allOuts_mem h o ho
  unfold onward at f1
  cases hx : o.ex with
  | normal =>
    rw [hx] at f1 e1
    subst e1 e2
    exact hk o1 _ _ _ D' σ' w' f1 f2 H' E' c' d' (fun m hm => E'.sub m (hro m hm)) (roc_ext hro E'.agree) n'
  | exit id =>
    rw [hx] at f1
    cases f1
    rw [e1, hx]
    exact hQ _ _ _ ⟨o, f2 o (.head _), D', σ', by rw [hx], e2, H', E', c', d', n'⟩
  | ret =>
    rw [hx] at f1
    cases f1
    rw [e1, hx]
    exact hQ _ _ _ ⟨o, f2 o (.head _), D', σ', by rw [hx], e2, H', E', c', d', n'⟩
theorem evLoop_ok (hE : EvOK P T E) {c : Code} {n : Nat} {ro : Option Nat} {m : Nat} {ts : Tr AV} {ds : List ADef} {all : List Out} (h : evLoop E c n ro m ts ds s = some all) (H : HR T.gl D σ s w) (hc : tcl D ts) (hd : dcl D ds) (hro : rcl D ro)
    {Q : Exit → Act → World → Prop} (hQ : ∀ e a w', Post T.gl s.next D σ w n all e a w' → Q e a w') : (Code.loop c).wpIn (Fw (roc σ ro)) 0 P Q (acts σ n ts (dconc σ ds)) w := by
  refine wpIn_loop_down (L := fun m a w' => ∃ ts ds s' all' D' σ', evLoop E c n ro m ts ds s' = some all' ∧ a = acts σ' n ts (dconc σ' ds) ∧ HR T.gl D' σ' s' w' ∧ tcl D' ts ∧ dcl D' ds ∧ rcl D' ro ∧ roc σ' ro = roc σ ro ∧
    ∀ e a w'', Post T.gl s'.next D' σ' w' n all' e a w'' → Q e a w'') ?_ ?_ m _ _ ⟨ts, ds, s, all, D, σ, h, rfl, H, hc, hd, hro, rfl, hQ⟩
  · rintro a w' ⟨ts, ds, s', all', D', σ', h, _⟩
    cases h
  · rintro m a w' ⟨ts, ds, s', all', D', σ', h, rfl, H', c', d', r', hr, hQ'⟩
    simp only [evLoop] at h
    split at h
    case h_2 => cases h
    rename_i outs hcode
    have hw := hE.code _ _ _ _ _ _ _ hcode D' σ' w' H' c' d' r'
    rw [hr] at hw
    refine wpIn_mono hw ?_
    intro e a w2 hp
    refine onward_ok (s := s') h r' hQ' ?_ hp
    intro o1 ts2 ds2 s2 D2 σ2 w3 h2 hsub H2 E2 c2 d2 r2 hr2 n2
    exact ⟨ts2, ds2, s2, o1, D2, σ2, h2, rfl, H2, c2, d2, r2, hr2.trans hr, fun e a w4 hp2 => hQ' _ _ _ (Post.from E2 n2 hsub hp2)⟩
def DrawOK (P : Program) (T : Tbl) (draw : Array Oper → Nat → Option Nat → Tr AV → List ADef → St → Option (List Out)) : Prop :=
  ∀ ops id n ro ts ds s outs, draw ops n ro ts ds s = some outs → ∀ D σ w, HR T.gl D σ s w → tcl D ts → dcl D ds → rcl D ro →
    (Code.region id ops true).wpIn (Fw (roc σ ro)) 0 P (Post T.gl s.next D σ w n outs) (acts σ n ts (dconc σ ds)) w
theorem evRangeFunc_ok (hT : TblOK P T) (hE : EvOK P T E) {g : Operand} {ps : Array Tmp} {as bo : Code} {n : Nat} {ts : Tr AV} {ds : List ADef} {outs : List Out} (h : evRangeFunc E T g ps as bo n ts ds s = some outs)
    (H : HR T.gl D σ s w) (hc : tcl D ts) (hd : dcl D ds) : (Code.rangeFunc g ps as bo).wpIn (Fw none) 0 P (Post T.gl s.next D σ w n outs) (acts σ n ts (dconc σ ds)) w := by
  unfold evRangeFunc at h
  split at h
  case h_2 => cases h
  rename_i f first cap hg
  split at h
  case h_2 => cases h
  rename_i fd hfn hlt
  have hlt : s.next + 2 < 16000000 := by simpa [Nat.blt_eq] using hlt
  simp only at h
  split at h
  case h_2 => cases h
  rename_i v0 s3 hcall
  split at h
  case h_2 => cases h
  rename_i st pending nt3 tt3 pa3 as3 bo3 dn3 hg3
  split at h
  · cases h
  rename_i hbusy
  obtain ⟨eg, cg⟩ := evOperand_conc hg (σ := σ) hc (dconc σ ds)
  obtain ⟨cf, cc⟩ : cls D first ∧ cls D cap := by simpa [AV.cl] using cg
  refine wpIn_rangeFunc (F := Fw none) fun fn _ => ?_
  -- the two new blocks
  obtain ⟨H1, E1⟩ := H.add (w' := { w with heap := w.heap.push (.deferred (some [])) }) (by omega) (by show _ < (w.heap.push _).size; simp) (fun b hb => by show (w.heap.push _)[b]? = _; rw [Array.getElem?_push, if_neg (by omega)]) rfl rfl rfl
    (.dfr true) ⟨w.heap.size, 0, 0⟩ rfl (by show (w.heap.push _)[_]? = _; rw [upd_same]; simp)
  generalize hσ1 : upd σ s.next ⟨w.heap.size, 0, 0⟩ = σ1 at H1 E1
  have hr1 : (σ1 s.next).block = w.heap.size := by rw [← hσ1, upd_same]
  have hfr : s.next ≠ (s.new (.dfr true)).next := by show s.next ≠ s.next + 1; omega
  have ht1 : tcl (more D s.next) ts := tcl_mono E1.sub hc
  obtain ⟨H2, E2⟩ := H1.add (w' := { w with heap := (w.heap.push (.deferred (some []))).push (.loop { state := .ready, pending := none, fn := fn, tmps := tarr σ n ts, params := ps, assign := as, body := bo, defers := w.heap.size }) })
    (by show s.next + 1 < _; omega) (by show (w.heap.push _).size < ((w.heap.push _).push _).size; simp) (fun b hb => by show ((w.heap.push _).push _)[b]? = (w.heap.push _)[b]?; rw [Array.getElem?_push, if_neg (by have : b < (w.heap.push _).size := hb; omega)]) rfl rfl rfl
    (.loop .ready none n ts ps as bo s.next) ⟨(w.heap.push (.deferred (some []))).size, 0, 0⟩ rfl (by
      refine ⟨.inl (.inr rfl), tcl_mono (fun _ h => .inl h) ht1, fn, ?_⟩
      rw [upd_same, upd_other _ _ _ hfr, hr1]
      show ((w.heap.push _).push _)[(w.heap.push _).size]? = _
      rw [Array.getElem?_push_size]
      rw [tarr_ext (fun m hm => upd_other _ _ _ (H1.fresh hm)) ht1, tarr_ext E1.agree hc])
  generalize hσ2 : upd σ1 (s.new (.dfr true)).next ⟨(w.heap.push (.deferred (some []))).size, 0, 0⟩ = σ2 at H2 E2
  generalize hW2 : ({ w with heap := (w.heap.push (.deferred (some []))).push (.loop { state := .ready, pending := none, fn := fn, tmps := tarr σ n ts, params := ps, assign := as, body := bo, defers := w.heap.size }) } : World) = W2 at H2 E2
  have hl2 : (σ2 (s.next + 1)).block = w.heap.size + 1 := by
    rw [← hσ2]
    show (upd σ1 (s.next + 1) _ (s.next + 1)).block = _
    rw [upd_same]; simp
  have hr2 : (σ2 s.next).block = w.heap.size := by rw [← hσ2, upd_other _ _ _ hfr, hr1]
  have E12 : Ext s.next D σ w _ σ2 _ := E1.trans E2 (Nat.le_succ _)
  have hsame : acts σ n ts (dconc σ ds) = acts σ2 n ts (dconc σ2 ds) := by
    unfold acts
    rw [tarr_ext E12.agree hc, dconc_ext E12.agree hd]
  have hargs : cls (more (more D s.next) (s.new (.dfr true)).next) (first ++ [.yld (s.next + 1)] ++ cap) :=
    cls_append (cls_append (cls_mono E12.sub _ cf) ⟨.inr rfl, trivial⟩) (cls_mono E12.sub _ cc)
  refine ⟨w.heap.size + 1, [{ target := .collected w.heap.size, args := #[] }], W2, { target := .fn (.func f) (concs σ cap).toArray, args := (concs σ first).toArray ++ #[.func (.yield (w.heap.size + 1)) #[] #[]] }, W2, f,
    (concs σ2 (first ++ [.yld (s.next + 1)] ++ cap)).toArray, W2, ?_, ?_, fun _ _ => trivial, ?_, Fw_depth _ _, ?_⟩
  · show (Instr.enterLoop fn (tarr σ n ts) ps as bo none).run P w = _
    simp only [Instr.enterLoop, Sem.run_bind, run_newObj, Result.andThen_ok, Sem.run_pure]
    rw [← hW2]
    simp
  · have hres : resolve (acts σ n ts (dconc σ ds)).eval (rangeCall g (w.heap.size + 1)) 0 = Deferred.ofValue ((acts σ n ts (dconc σ ds)).eval g) #[.func (.yield (w.heap.size + 1)) #[] #[]] := by
      simp only [resolve]
      congr 1
      simp [Act.eval]
    rw [hres, eg]
    rfl
  · have hca : (concs σ first).toArray ++ #[.func (.yield (w.heap.size + 1)) #[] #[]] ++ (concs σ cap).toArray = (concs σ2 (first ++ [.yld (s.next + 1)] ++ cap)).toArray := by
      rw [concs_append, concs_append, concs_ext E12.agree first cf, concs_ext E12.agree cap cc]
      simp [concs, conc, hl2]
    simp only [invoke, hca]
    exact callFunc_enter hT hfn _
  · have hcl := hE.call _ _ _ _ _ hcall _ σ2 _ H2 hargs
    refine CallsIn.mono hcl ?_
    rintro e w3 ⟨D3, σ3, rfl, H3, E3, c3, n3⟩
    have hDl : D3 (s.next + 1) := E3.sub _ (.inr rfl)
    have hs3 : (σ3 (s.next + 1)).block = w.heap.size + 1 := (congrArg Loc.block (E3.agree (s.next + 1) (.inr rfl))).trans hl2
    have hr3 : (σ3 s.next).block = w.heap.size := (congrArg Loc.block (E3.agree s.next (.inl (.inr rfl)))).trans hr2
    have n3' : s.next ≤ s3.next := Nat.le_trans (by show s.next ≤ s.next + 1 + 1; omega) n3
    have E03 : Ext s.next D σ w D3 σ3 w3 := E12.trans E3 (by show s.next ≤ s.next + 1 + 1; omega)
    obtain ⟨fn3, w4, f1, f2, H4, E4⟩ := H3.turnLoop P hDl (by omega) .exhausted pending hg3 s3.next
    rw [hs3] at f1 f2
    have H4 := H4.kill (n := s.next + 1) (by omega)
    have E04 := E03.trans E4 n3'
    have hst : (st == LoopState.busy) = false := by
      cases st <;> first | rfl | (simp [LoopState.isBusy] at hbusy)
    refine ⟨pending, w4, ?_, ?_⟩
    · simp only [Instr.endLoop, Sem.run_bind, run_getLoop f1, Result.andThen_ok]
      simp only [hst, Bool.false_eq_true, if_false]
      simp only [Sem.run_bind, f2, Result.andThen_ok, Sem.run_pure]
    · have hacts : ({ acts σ n ts (dconc σ ds) with defers := [{ target := .collected w.heap.size, args := #[] }] ++ (acts σ n ts (dconc σ ds)).defers } : Act) = acts σ3 n ts (dconc σ3 (.mark s.next :: ds)) := by
        unfold acts
        rw [← tarr_ext E03.agree hc]
        simp only [dconc, List.map_cons, ADef.conc, hr3, List.singleton_append, Act.mk.injEq, true_and, List.cons.injEq]
        exact (dconc_ext E03.agree hd).symm
      rw [hacts]
      have hdm : dcl D3 (.mark s.next :: ds) := fun d hd' => by
        rcases List.mem_cons.1 hd' with rfl | hd'
        · exact E3.sub _ (.inl (.inr rfl))
        · exact dcl_mono E03.sub hd d hd'
      cases pending with
      | none =>
        simp only at h
        cases h
        exact ⟨_, .head _, D3, σ3, rfl, rfl, H4, E04, tcl_mono E03.sub hc, hdm, n3'⟩
      | some c =>
        simp only at h
        have := hE.code _ _ _ _ _ _ _ h D3 σ3 w4 H4 (tcl_mono E03.sub hc) hdm (by intro m hm; cases hm)
        exact wpIn_mono this fun e a w5 hp => Post.from E04 n3' (fun _ h => h) hp
theorem evCode_ok (hT : TblOK P T) (hE : EvOK P T E) {draw : Array Oper → Nat → Option Nat → Tr AV → List ADef → St → Option (List Out)} (hdraw : DrawOK P T draw) {c : Code} {n : Nat} {ro : Option Nat} {ts : Tr AV} {ds : List ADef} {outs : List Out}
    (h : evCode E T draw c n ro ts ds s = some outs) (H : HR T.gl D σ s w) (hc : tcl D ts) (hd : dcl D ds) (hro : rcl D ro) :
    c.wpIn (Fw (roc σ ro)) 0 P (Post T.gl s.next D σ w n outs) (acts σ n ts (dconc σ ds)) w := by
  have here : ∀ ex, Post T.gl s.next D σ w n [⟨ex, ts, ds, s⟩] ex.conc (acts σ n ts (dconc σ ds)) w := fun ex => ⟨_, .head _, D, σ, rfl, rfl, H, Ext.refl _ _ _ _, hc, hd, Nat.le_refl _⟩
  cases c <;> simp only [evCode] at h
  case skip => cases h; exact wpIn_skip (here .normal)
  case region id ops dr =>
    cases dr with
    | false => exact wpIn_region_list (evList_ok hT hE ops.toList h H hc hd hro (fun _ _ _ h => h))
    | true => exact hdraw _ id _ _ _ _ _ _ h D σ w H hc hd hro
  case seq a b =>
    split at h
    case h_2 => cases h
    rename_i o1 h1
    refine wpIn_seq (wpIn_mono (hE.code _ _ _ _ _ _ _ h1 D σ w H hc hd hro) ?_)
    intro e a w' hp
    refine onward_ok (s := s) h hro (fun _ _ _ h => h) ?_ hp
    intro o2 ts2 ds2 s2 D2 σ2 w2 h2 hsub H2 E2 c2 d2 r2 hr2 n2
    have := hE.code _ _ _ _ _ _ _ h2 D2 σ2 w2 H2 c2 d2 r2
    rw [hr2] at this
    exact wpIn_mono this fun e a w3 hp => Post.from E2 n2 hsub hp
  case cond x a b =>
    split at h
    · rename_i hv
      exact wpIn_cond (t := true) (by rw [(evOperand_conc hv (σ := σ) hc _).1]; rfl) (hE.code _ _ _ _ _ _ _ h D σ w H hc hd hro)
    · rename_i hv
      exact wpIn_cond (t := false) (by rw [(evOperand_conc hv (σ := σ) hc _).1]; rfl) (hE.code _ _ _ _ _ _ _ h D σ w H hc hd hro)
    · cases h
  case block id c =>
    split at h
    case h_2 => cases h
    rename_i o1 h1
    cases h
    refine wpIn_block (wpIn_mono (hE.code _ _ _ _ _ _ _ h1 D σ w H hc hd hro) ?_)
    rintro e a w' ⟨o, ho, D', σ', e1, e2, H', E', c', d', n'⟩
    subst e1 e2
    have hm : unblock id o ∈ o1.map (unblock id) := List.mem_map.2 ⟨o, ho, rfl⟩
    cases hx : o.ex with
    | normal =>
      have hu : unblock id o = o := by unfold unblock; rw [hx]
      rw [hu] at hm
      exact ⟨o, hm, D', σ', by rw [hx], rfl, H', E', c', d', n'⟩
    | ret =>
      have hu : unblock id o = o := by unfold unblock; rw [hx]
      rw [hu] at hm
      exact ⟨o, hm, D', σ', by rw [hx], rfl, H', E', c', d', n'⟩
    | exit id' =>
      show (if id' = id then _ else _)
      by_cases hid : id' = id
      · rw [if_pos hid]
        have hu : unblock id o = { o with ex := .normal } := by unfold unblock; rw [hx]; simp [hid]
        rw [hu] at hm
        exact ⟨_, hm, D', σ', rfl, rfl, H', E', c', d', n'⟩
      · rw [if_neg hid]
        have hu : unblock id o = o := by
          unfold unblock; rw [hx]
          simp only
          rw [show Nat.beq id' id = false by simpa [← Bool.not_eq_true, Nat.beq_eq] using hid]
        rw [hu] at hm
        exact ⟨o, hm, D', σ', by rw [hx]; rfl, rfl, H', E', c', d', n'⟩
  case loop c => exact evLoop_ok hE h H hc hd hro (fun _ _ _ h => h)
  case rangeFunc g ps as bo =>
    cases ro with
    | none => exact evRangeFunc_ok hT hE h H hc hd
    | some m => cases h
  case exit id => cases h; exact wpIn_exit (here (.exit id))
  case label l => cases h; exact wpIn_label (here .normal)
  case ret => cases h; exact wpIn_ret (here .ret)
  all_goals cases h
end
end
end Go.Ai
end
section
namespace Go.Ai
noncomputable section
abbrev Draw := Ev → Tbl → Array Oper → Nat → Option Nat → Tr AV → List ADef → St → Option (List Out)
abbrev Sums := Nat → List AV → Option AV
noncomputable def evS (draw : Draw) (sm : Sums) (T : Tbl) (E : Ev) : Ev :=
  { code := fun c n ro ts ds s => evCode E T (draw E T) c n ro ts ds s, call := fun f args s => match sm f args with
    | some v => some (v, s)
    | none => evFun E T f args s }
noncomputable def ev (draw : Draw) (sm : Sums) (T : Tbl) : Nat → Ev
  | 0 => ⟨fun _ _ _ _ _ _ => none, fun _ _ _ => none⟩
  | k + 1 => evS draw sm T (ev draw sm T k)
def SumOK (P : Program) (T : Tbl) (f : Nat) (args : List AV) (v : AV) : Prop :=
  ∀ D σ s w, HR T.gl D σ s w → CallsIn (Fw none) 0 P f (concs σ args).toArray w (CallPost T.gl s.next D σ w v s)
def SumsOK (P : Program) (T : Tbl) (sm : Sums) : Prop := ∀ f args v, sm f args = some v → SumOK P T f args v
theorem ev_ok {P : Program} {T : Tbl} (hT : TblOK P T) {draw : Draw} {sm : Sums} (hsm : SumsOK P T sm) (hdraw : ∀ E, EvOK P T E → DrawOK P T (draw E T)) : ∀ k, EvOK P T (ev draw sm T k)
  | 0 => ⟨fun c n ro ts ds s outs (h : none = some outs) => (nomatch h), fun f args s v s' (h : none = some (v, s')) => (nomatch h)⟩
  | k + 1 => by
    have ih := ev_ok hT hsm hdraw k
    refine ⟨fun c n ro ts ds s outs h D σ w H hc hd hro => evCode_ok hT ih (hdraw _ ih) h H hc hd hro, fun f args s v s' h D σ w H ha => ?_⟩
    simp only [ev, evS] at h
    split at h
    · rename_i u hu
      cases h
      exact hsm f args v hu D σ s w H
    · exact evFun_ok hT ih h H ha
end
end Go.Ai
end
