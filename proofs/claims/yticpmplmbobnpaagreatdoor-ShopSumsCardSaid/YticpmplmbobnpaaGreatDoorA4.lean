/- An evaluator of the model, proved right: what it answers holds for every world and tape. -/
import Derived.Test.YticpmplmbobnpaaGreatDoorA3
set_option linter.unusedVariables false
set_option linter.unusedSimpArgs false
section
namespace Go.Ai
noncomputable section
section
variable {P : Program} {T : Tbl} {E : Ev} {gl : Nat → Option (List AV)} {D : Nat → Prop} {σ : Nat → Loc} {s : St} {w : World}
noncomputable def evVal (E : Ev) (T : Tbl) (n : Nat) (ts : Tr AV) (s : St) (o : Oper) : Option (AV × St) :=
  match evOp T n ts s o with
  | some (.vals [p]) => some p
  | some (.skip s') => some (.tuple [], s')
  | some (.enter f args) => E.call f args s
  | some (.round m args) => evRound E m args s
  | _ => none
def isSel : Op → Bool
  | .select _ _ => true
  | _ => false
def isDefer : Op → Bool
  | .defer _ => true
  | _ => false
theorem evVal_ok (hT : TblOK P T) (hE : EvOK P T E) {n : Nat} {ts : Tr AV} {o : Oper} {v : AV} {s' : St} (h : evVal E T n ts s o = some (v, s')) (hsel : isSel o.op = false) (hdf : isDefer o.op = false) (H : HR T.gl D σ s w) (hc : tcl D ts)
    {a : Act} (ha : ∀ x ∈ o.op.operands, a.eval x = (acts σ n ts []).eval x) {next : Act → World → Prop} {Q : Exit → Act → World → Prop} (r : Option Nat)
    (hn : ∀ D' σ' w', HR T.gl D' σ' s' w' → Ext s.next D σ w D' σ' w' → v.cl D' → s.next ≤ s'.next → next (a.put o.dst (conc σ' v)) w') : o.wpIn (Fw r) 0 P a w next Q := by
  refine ⟨fun _ _ => trivial, ?_⟩
  have hsa : o.semAt (Fw r).round a.eval = execOp (acts σ n ts []).eval o := by
    rw [Oper.semAt_eq _ _ _ (fun c hop => by rw [hop] at hdf; cases hdf)]
    exact execOp_congr o (fun cs b hop => by rw [hop] at hsel; cases hsel) ha
  rw [hsa]
  unfold evVal at h
  split at h
  · rename_i p hop
    cases h
    obtain ⟨q, hq, D', σ', w', r1, H', E', c', n'⟩ := evOp_ok hT H hc [] hop
    simp only [List.mem_singleton] at hq
    subst hq
    rw [r1]
    exact hn D' σ' w' H' E' c' n'
  · rename_i s1 hop
    cases h
    obtain ⟨D', σ', w', r1, H', E', n'⟩ := evOp_ok hT H hc [] hop
    rw [r1]
    exact hn D' σ' w' H' E' (by simp [AV.cl, cls]) n'
  · rename_i f args hop
    obtain ⟨r1, ca⟩ := evOp_ok hT H hc [] hop
    rw [r1]
    refine ⟨Fw_depth _ _, ?_⟩
    refine CallsIn.mono (callsIn_round (r := none) (n := 0) (hE.call _ _ _ _ _ h D σ w H ca)) ?_
    rintro e w' ⟨D', σ', rfl, H', E', c', n'⟩
    exact hn D' σ' w' H' E' c' n'
  · rename_i m args hop
    obtain ⟨r1, ca, hDm⟩ := evOp_ok hT H hc [] hop
    obtain ⟨fn, tmps, assign, body, r2, r3⟩ := evRound_ok hE h H hDm ca r
    rw [r1, r2]
    refine ⟨Fw_depth _ _, r3.mono ?_⟩
    rintro e w' ⟨D', σ', rfl, H', E', c', n'⟩
    exact hn D' σ' w' H' E' c' n'
  · cases h
def preds (o : Oper) : List Nat := (o.after.toList.filter (Region.binds .any)).map (·.on)
def memN (k : Nat) : List Nat → Bool
  | [] => false
  | x :: r => match Nat.beq k x with
    | true => true
    | false => memN k r
theorem memN_iff {k : Nat} : ∀ {l : List Nat}, memN k l = true ↔ k ∈ l
  | [] => by simp [memN]
  | x :: r => by
    simp only [memN, List.mem_cons]
    split
    · rename_i h; simp [Nat.eq_of_beq_eq_true h]
    · rename_i h
      rw [memN_iff]
      simp [Nat.ne_of_beq_eq_false h]
def clearOf (ops : Array Oper) (i : Nat) (o : Oper) (k : Nat) (ok : Oper) : Bool :=
  match ok.dst with
  | none => true
  | some d => (Nat.beq i k || !(o.dst == some d)) && (memN k (preds o) || memN i (preds ok) || !memN d (o.looksAt ops))
def allIdx (f : Nat → Oper → Bool) : List Oper → Nat → Bool
  | [], _ => true
  | o :: r, i => f i o && allIdx f r (i + 1)
theorem allIdx_iff {f : Nat → Oper → Bool} : ∀ {l : List Oper} {i : Nat}, allIdx f l i = true → ∀ (k : Nat) (o : Oper), l[k]? = some o → f (i + k) o = true
  | o :: r, i, h, 0, x, hx => by
    simp only [allIdx, Bool.and_eq_true] at h
    simp at hx; subst hx; exact h.1
  | o :: r, i, h, k + 1, x, hx => by
    simp only [allIdx, Bool.and_eq_true] at h
    have := allIdx_iff h.2 k x (by simpa using hx)
    rwa [show i + 1 + k = i + (k + 1) by omega] at this
  | [], _, _, k, x, hx => by simp at hx
def okText (ops : Array Oper) : Bool :=
  allIdx (fun i o => (preds o).all (fun p => Nat.blt p i) && !isSel o.op && !isDefer o.op && allIdx (fun k ok => clearOf ops i o k ok) ops.toList 0) ops.toList 0
structure TextOK (ops : Array Oper) : Prop where
  small : ∀ (i : Nat) (o : Oper), ops[i]? = some o → ∀ p ∈ preds o, p < i
  sel : ∀ (i : Nat) (o : Oper), ops[i]? = some o → isSel o.op = false
  dfr : ∀ (i : Nat) (o : Oper), ops[i]? = some o → isDefer o.op = false
  dst : ∀ (i : Nat) (o : Oper) (k : Nat) (ok : Oper) (d : Tmp), ops[i]? = some o → ops[k]? = some ok → o.dst = some d → ok.dst = some d → i = k
  look : ∀ (i : Nat) (o : Oper) (k : Nat) (ok : Oper) (d : Tmp), ops[i]? = some o → ops[k]? = some ok → ok.dst = some d → d ∈ o.looksAt ops → k ∈ preds o ∨ i ∈ preds ok
theorem okText_ok {ops : Array Oper} (h : okText ops = true) : TextOK ops := by
  have key : ∀ i o, ops[i]? = some o → ((preds o).all (fun p => Nat.blt p i) = true ∧ isSel o.op = false ∧ isDefer o.op = false) ∧ ∀ k ok, ops[k]? = some ok → clearOf ops i o k ok = true := by
    intro i o ho
    have := allIdx_iff h i o (by simpa using ho)
    simp only [Nat.zero_add, Bool.and_eq_true, Bool.not_eq_true'] at this
    obtain ⟨⟨⟨h1, h2⟩, h3⟩, h4⟩ := this
    refine ⟨⟨h1, h2, h3⟩, fun k ok hk => ?_⟩
    have := allIdx_iff h4 k ok (by simpa using hk)
    simpa using this
  refine ⟨fun i o ho p hp => ?_, fun i o ho => (key i o ho).1.2.1, fun i o ho => (key i o ho).1.2.2, fun i o k ok d ho hk h1 h2 => ?_, fun i o k ok d ho hk h1 h2 => ?_⟩
  · have := List.all_eq_true.1 (key i o ho).1.1 p hp
    simpa [Nat.blt_eq] using this
  · have := (key i o ho).2 k ok hk
    simp only [clearOf, h2, h1, beq_self_eq_true, Bool.not_true, Bool.or_false, Bool.and_eq_true] at this
    exact Nat.eq_of_beq_eq_true this.1
  · have := (key i o ho).2 k ok hk
    simp only [clearOf, h1, Bool.and_eq_true, Bool.or_eq_true, Bool.not_eq_true'] at this
    rcases this.2 with (h3 | h3) | h3
    · exact .inl (memN_iff.1 h3)
    · exact .inr (memN_iff.1 h3)
    · rw [memN_iff.2 h2] at h3; cases h3
end
end
end Go.Ai
end
section
namespace Go.Ai
noncomputable section
inductive Kind where
  | alloc (e : Nat)
  | float
  | effect
def kindOf (o : Oper) : Kind :=
  match o.op with
  | .alloc e => match o.guard with
    | none => .alloc e
    | some _ => .effect
  | .move _ | .assign _ | .pick .. | .binOp .. | .unOp .. | .convert .. | .makeInterface .. | .makeFunc .. | .slice .. | .fieldAddr .. | .field .. | .indexAddr .. | .index .. | .typeAssert .. | .extract .. | .nilCheck _ | .build .. => .float
  | .load .. | .lookup .. | .entry _ => .float
  | .call c => match c.callee with
    | .builtin .len | .builtin .max | .builtin .min => .float
    | _ => .effect
  | _ => .effect
def isPure (o : Op) : Bool :=
  match o with
  | .move _ | .assign _ | .pick .. | .binOp .. | .unOp .. | .makeInterface .. | .makeFunc .. | .slice .. | .fieldAddr .. | .field .. | .indexAddr .. | .index .. | .typeAssert .. | .extract .. | .nilCheck _ | .build .. => true
  | _ => false
structure Acc where
  vals : Tr AV
  sts : List St
  chain : List Nat
section
variable {P : Program} {T : Tbl} {E : Ev} {gl : Nat → Option (List AV)} {D : Nat → Prop} {σ : Nat → Loc} {s : St} {w : World}
noncomputable def envOf (ops : Array Oper) (n : Nat) (vals : Tr AV) : List Nat → Tr AV → Option (Tr AV)
  | [], ts => some ts
  | p :: r, ts => match ops[p]? with
    | some o => match tput n o.dst (tget vals p) ts with
      | some ts' => envOf ops n vals r ts'
      | none => none
    | none => none
def anc (ops : Array Oper) (c : Nat) : Nat → Oper → Bool
  | 0, o => memN c (preds o)
  | f + 1, o => memN c (preds o) || (preds o).any fun p => match ops[p]? with
    | some q => anc ops c f q
    | none => false
theorem anc_listed {ops : Array Oper} {L : Nat → Bool} (hd : ∀ (i : Nat) (o : Oper), ops[i]? = some o → L i = true → ∀ p ∈ preds o, L p = true) {c : Nat} : ∀ (f : Nat) (o : Oper), (∀ p ∈ preds o, L p = true) → anc ops c f o = true → L c = true
  | 0, o, hp, h => hp c (memN_iff.1 h)
  | f + 1, o, hp, h => by
    simp only [anc, Bool.or_eq_true, List.any_eq_true] at h
    rcases h with h | ⟨p, hpm, h⟩
    · exact hp c (memN_iff.1 h)
    · split at h
      · rename_i q hq
        exact anc_listed hd f q (hd p q hq (hp p hpm)) h
      · cases h
noncomputable def runD (E : Ev) (T : Tbl) (n : Nat) (ops : Array Oper) (ts : Tr AV) : List Oper → Nat → Acc → Option Acc
  | [], _, a => some a
  | o :: r, i, a => match kindOf o with
    | .alloc _ => runD E T n ops ts r (i + 1) a
    | .float => match envOf ops n a.vals (preds o) ts with
      | some env => match wantedA ops n env o with
        | false => runD E T n ops ts r (i + 1) { a with vals := Tr.set 12 a.vals i (some (.tuple [])) }
        | true => match a.sts with
          | st :: _ => match evVal E T n env st o with
            | some (v, _) => runD E T n ops ts r (i + 1) { a with vals := Tr.set 12 a.vals i (some v) }
            | none => none
          | [] => none
      | none => none
    | .effect => match envOf ops n a.vals (preds o) ts with
      | some env => match wantedA ops n env o with
        | false => runD E T n ops ts r (i + 1) { a with vals := Tr.set 12 a.vals i (some (.tuple [])) }
        | true => match a.sts with
          | st :: sts => match (match a.chain with
            | [] => true
            | c :: _ => anc ops c 5 o), evVal E T n env st o with
            | true, some (v, st') => runD E T n ops ts r (i + 1) ⟨Tr.set 12 a.vals i (some v), st' :: st :: sts, i :: a.chain⟩
            | _, _ => none
          | [] => none
      | none => none
noncomputable def layBy (T : Tbl) : List Oper → Nat → St → Tr AV → Option (St × Tr AV)
  | [], _, s, vals => some (s, vals)
  | o :: r, i, s, vals => match kindOf o with
    | .alloc e => match evAlloc T s e with
      | some (v, s') => layBy T r (i + 1) s' (Tr.set 12 vals i (some v))
      | none => none
    | _ => layBy T r (i + 1) s vals
theorem one_state {r : Option AV} {q : OpRes} (h : one r s = some q) : ∃ v, q = .vals [(v, s)] := by
  cases r with
  | none => cases h
  | some v => cases h; exact ⟨v, rfl⟩
theorem float_state {n : Nat} {ts : Tr AV} {o : Oper} (hk : kindOf o = .float) {v : AV} {s' : St} (h : evVal E T n ts s o = some (v, s')) : s' = s := by
  have key : ∀ q, evOp T n ts s o = some q → ∃ v, q = .vals [(v, s)] := by
    intro q hq
    unfold evOp at hq
    unfold kindOf at hk
    cases hop : o.op <;> simp only [hop] at hq hk
    case move x => exact one_state hq
    case assign x => exact one_state hq
    case pick c a b => split at hq <;> first | exact one_state hq | cases hq
    case alloc e => split at hk <;> cases hk
    case build t parts => split at hq <;> first | exact one_state hq | cases hq
    case load t a => split at hq <;> first | exact one_state hq | cases hq
    case nilCheck x => split at hq <;> first | (cases hq; exact ⟨_, rfl⟩) | cases hq
    case binOp => split at hq <;> first | exact one_state hq | cases hq
    case unOp => split at hq <;> first | exact one_state hq | cases hq
    case convert => split at hq <;> first | exact one_state hq | cases hq
    case makeInterface => split at hq <;> first | exact one_state hq | cases hq
    case makeFunc fn first cap =>
      cases fn <;> simp only at hq
      case func f => split at hq <;> first | (cases hq; exact ⟨_, rfl⟩) | cases hq
      all_goals cases hq
    case slice => split at hq <;> first | exact one_state hq | cases hq
    case fieldAddr => split at hq <;> first | exact one_state hq | cases hq
    case field => split at hq <;> first | exact one_state hq | cases hq
    case indexAddr => split at hq <;> first | exact one_state hq | cases hq
    case index => split at hq <;> first | exact one_state hq | cases hq
    case lookup => split at hq <;> first | exact one_state hq | cases hq
    case entry => split at hq <;> first | exact one_state hq | cases hq
    case typeAssert => split at hq <;> first | exact one_state hq | cases hq
    case extract => split at hq <;> first | exact one_state hq | cases hq
    case call c =>
      unfold evCall at hq
      split at hq
      case h_2 => cases hq
      rename_i args hargs
      cases hcal : c.callee with
      | builtin b =>
        simp only [hcal] at hq hk
        cases b <;> simp only at hk <;> first | cases hk | skip
        all_goals
          unfold evBuiltin at hq
          split at hq <;> first | contradiction | exact one_state hq | (cases hq; exact ⟨_, rfl⟩) | (cases hq; done)
      | value f => simp only [hcal] at hk; cases hk
      | invoke r m => simp only [hcal] at hk; cases hk
    all_goals cases hk
  unfold evVal at h
  cases hq : evOp T n ts s o with
  | none => rw [hq] at h; cases h
  | some q =>
    obtain ⟨u, rfl⟩ := key q hq
    rw [hq] at h
    cases h; rfl
theorem one_any {r : Option AV} {v : AV} {s2 : St} (h : one r s = some (.vals [(v, s)])) : one r s2 = some (.vals [(v, s2)]) := by
  cases r with
  | none => cases h
  | some u =>
    simp only [one, Option.some.injEq, OpRes.vals.injEq, List.cons.injEq, Prod.mk.injEq, and_true] at h
    rw [h]; rfl
theorem pure_any {n : Nat} {ts : Tr AV} {o : Oper} (hp : isPure o.op = true) {v : AV} {s' s2 : St} (h : evVal E T n ts s o = some (v, s')) : evVal E T n ts s2 o = some (v, s2) := by
  have key : ∀ q, evOp T n ts s o = some q → ∃ v, q = .vals [(v, s)] ∧ evOp T n ts s2 o = some (.vals [(v, s2)]) := by
    intro q hq
    have fin : ∀ {r : Option AV}, one r s = some q → ∃ v, q = .vals [(v, s)] ∧ one r s2 = some (.vals [(v, s2)]) := fun {r} hr => by
      obtain ⟨v, rfl⟩ := one_state hr
      exact ⟨v, rfl, one_any hr⟩
    unfold evOp at hq ⊢
    unfold isPure at hp
    cases hop : o.op <;> simp only [hop] at hq hp ⊢
    case move x => exact fin hq
    case assign x => exact fin hq
    case pick c a b => split at hq <;> first | exact fin hq | cases hq
    case build t parts => split at hq <;> first | exact fin hq | cases hq
    case nilCheck x => split at hq <;> first | (cases hq; exact ⟨_, rfl, rfl⟩) | cases hq
    case binOp => split at hq <;> first | exact fin hq | cases hq
    case unOp => split at hq <;> first | exact fin hq | cases hq
    case convert => cases hp
    case makeInterface => split at hq <;> first | exact fin hq | cases hq
    case makeFunc fn first cap =>
      cases fn <;> simp only at hq ⊢
      case func f => split at hq <;> first | (cases hq; exact ⟨_, rfl, rfl⟩) | cases hq
      all_goals cases hq
    case slice => split at hq <;> first | exact fin hq | cases hq
    case fieldAddr => split at hq <;> first | exact fin hq | cases hq
    case field => split at hq <;> first | exact fin hq | cases hq
    case indexAddr => split at hq <;> first | exact fin hq | cases hq
    case index => split at hq <;> first | exact fin hq | cases hq
    case typeAssert => split at hq <;> first | exact fin hq | cases hq
    case extract => split at hq <;> first | exact fin hq | cases hq
    all_goals cases hp
  unfold evVal at h ⊢
  cases hq : evOp T n ts s o with
  | none => rw [hq] at h; cases h
  | some q =>
    obtain ⟨u, rfl, h2⟩ := key q hq
    rw [hq] at h
    cases h
    rw [h2]
end
end
end Go.Ai
end
section
namespace Go.Ai
noncomputable section
section
variable {P : Program} {T : Tbl} {E : Ev} {gl : Nat → Option (List AV)} {D : Nat → Prop} {σ : Nat → Loc} {s : St} {w : World}
def Acc.S (a : Acc) (j : Nat) : Option St := a.sts.reverse[j]?
def Acc.C (a : Acc) (k : Nat) : Option Nat := a.chain.reverse[k]?
theorem rev_get {α : Type} (x : List α) (y : List α) {j : Nat} {v : α} (h : y.reverse[j]? = some v) : (x ++ y).reverse[j]? = some v := by
  rw [List.reverse_append, List.getElem?_append_left]
  · exact h
  · exact (List.getElem?_eq_some_iff.1 h).1
theorem rev_cons_last {α : Type} (a : α) (y : List α) : (a :: y).reverse[y.length]? = some a := by
  rw [List.reverse_cons, List.getElem?_append_right (by simp)]
  simp
def Fact (E : Ev) (T : Tbl) (n : Nat) (ops : Array Oper) (ts : Tr AV) (fin : Acc) (i : Nat) (o : Oper) : Prop :=
  match kindOf o with
  | .alloc _ => True
  | .float => ∃ env, envOf ops n fin.vals (preds o) ts = some env ∧ (wantedA ops n env o = false → tget fin.vals i = .tuple []) ∧ (wantedA ops n env o = true → ∃ st st', evVal E T n env st o = some (tget fin.vals i, st'))
  | .effect => ∃ env, envOf ops n fin.vals (preds o) ts = some env ∧ ((wantedA ops n env o = false ∧ tget fin.vals i = .tuple [] ∧ ∀ k, fin.C k ≠ some i) ∨
      (wantedA ops n env o = true ∧ ∃ k st st', fin.C k = some i ∧ fin.S k = some st ∧ fin.S (k + 1) = some st' ∧ evVal E T n env st o = some (tget fin.vals i, st') ∧ (∀ c, 0 < k → fin.C (k - 1) = some c → anc ops c 5 o = true)))
theorem envOf_congr {ops : Array Oper} {n : Nat} {v v' : Tr AV} : ∀ {l : List Nat} {ts : Tr AV}, (∀ p ∈ l, tget v p = tget v' p) → envOf ops n v l ts = envOf ops n v' l ts
  | [], _, _ => rfl
  | p :: r, ts, h => by
    simp only [envOf, h p (.head _)]
    cases ops[p]? with
    | none => rfl
    | some o =>
      simp only
      cases tput n o.dst (tget v' p) ts with
      | none => rfl
      | some ts' => exact envOf_congr fun q hq => h q (.tail _ hq)
structure RunIs (E : Ev) (T : Tbl) (n : Nat) (ops : Array Oper) (ts : Tr AV) (l : List Oper) (i : Nat) (a fin : Acc) : Prop where
  sts : ∃ x, fin.sts = x ++ a.sts
  chain : ∃ x, fin.chain = x ++ a.chain ∧ (∀ c ∈ x, ∃ k o, l[k]? = some o ∧ kindOf o = .effect ∧ c = i + k) ∧ x.Pairwise (· > ·)
  len : a.sts.length = a.chain.length + 1 → fin.sts.length = fin.chain.length + 1
  vals : ∀ p, (∀ k o, l[k]? = some o → (∀ e, kindOf o ≠ .alloc e) → p ≠ i + k) → tget fin.vals p = tget a.vals p
  fact : a.sts.length = a.chain.length + 1 → (∀ c ∈ a.chain, c < i) → (∀ k o, l[k]? = some o → ∀ p ∈ preds o, p < i + k) → ∀ k o, l[k]? = some o → Fact E T n ops ts fin (i + k) o
theorem tget_setv {ts : Tr AV} {d : Nat} (hd : d < 4000) (v : AV) (t : Nat) : tget (Tr.set 12 ts d (some v)) t = if t = d then v else tget ts t := tget_set hd v t
theorem RunIs.cons {n : Nat} {ops : Array Oper} {ts : Tr AV} {o : Oper} {r : List Oper} {i : Nat} {a a' fin : Acc} (h : RunIs E T n ops ts r (i + 1) a' fin)
    (hs : ∃ x, a'.sts = x ++ a.sts) (hc : a'.chain = a.chain ∨ (a'.chain = i :: a.chain ∧ kindOf o = .effect))
    (hlen : a.sts.length = a.chain.length + 1 → a'.sts.length = a'.chain.length + 1)
    (hv : ∀ p, ((∀ e, kindOf o ≠ .alloc e) → p ≠ i) → tget a'.vals p = tget a.vals p)
    (hf : a.sts.length = a.chain.length + 1 → (∀ c ∈ a.chain, c < i) → (∀ p ∈ preds o, p < i) → Fact E T n ops ts fin i o) : RunIs E T n ops ts (o :: r) i a fin := by
  refine ⟨?_, ?_, fun hl => h.len (hlen hl), ?_, ?_⟩
  · obtain ⟨x, hx⟩ := h.sts
    obtain ⟨y, hy⟩ := hs
    exact ⟨x ++ y, by rw [hx, hy, List.append_assoc]⟩
  · obtain ⟨x, hx, hm, hpw⟩ := h.chain
    have shift : ∀ c ∈ x, ∃ k o', (o :: r)[k]? = some o' ∧ kindOf o' = .effect ∧ c = i + k := fun c hcx => by
      obtain ⟨k, o', h1, h2, h3⟩ := hm c hcx
      exact ⟨k + 1, o', by simpa using h1, h2, by omega⟩
    rcases hc with hc | ⟨hc, hk⟩
    · exact ⟨x, by rw [hx, hc], shift, hpw⟩
    · refine ⟨x ++ [i], by rw [hx, hc]; simp, fun c hcx => ?_, List.pairwise_append.2 ⟨hpw, by simp, fun c hcx b hb => ?_⟩⟩
      rotate_left
      · simp only [List.mem_singleton] at hb
        subst hb
        obtain ⟨k, o', _, _, h3⟩ := hm c hcx
        omega
      rcases List.mem_append.1 hcx with hcx | hcx
      · exact shift c hcx
      · simp only [List.mem_singleton] at hcx
        exact ⟨0, o, rfl, hk, by omega⟩
  · intro p hp
    rw [h.vals p fun k o' ho' hna => by have := hp (k + 1) o' (by simpa using ho') hna; omega]
    exact hv p fun hna => by have := hp 0 o rfl hna; simpa using this
  · intro hl hlt hpr k o' ho'
    cases k with
    | zero =>
      simp at ho'; subst ho'
      exact hf hl hlt fun p hp => by have := hpr 0 o rfl p hp; simpa using this
    | succ k =>
      have := h.fact (hlen hl) (fun c hc' => by
        rcases hc with hc | ⟨hc, _⟩
        · rw [hc] at hc'; have := hlt c hc'; omega
        · rw [hc] at hc'
          rcases List.mem_cons.1 hc' with rfl | hc'
          · omega
          · have := hlt c hc'; omega) (fun k o'' ho'' p hp => by have := hpr (k + 1) o'' (by simpa using ho'') p hp; omega) k o' (by simpa using ho')
      rwa [show i + 1 + k = i + (k + 1) by omega] at this
theorem runD_is {n : Nat} {ops : Array Oper} {ts : Tr AV} : ∀ (l : List Oper) (i : Nat) (a fin : Acc), runD E T n ops ts l i a = some fin → i + l.length ≤ 4000 → RunIs E T n ops ts l i a fin
  | [], i, a, fin, h, _ => by
    cases h
    exact ⟨⟨[], rfl⟩, ⟨[], rfl, by simp, by simp⟩, fun h => h, fun _ _ => rfl, fun _ _ _ k o ho => by simp at ho⟩
  | o :: r, i, a, fin, h, hb => by
    simp only [List.length_cons] at hb
    have hi : i < 4000 := by omega
    simp only [runD] at h
    have setv : ∀ (v : AV) p, ((∀ e, kindOf o ≠ .alloc e) → p ≠ i) → (∀ e, kindOf o ≠ .alloc e) → tget (Tr.set 12 a.vals i (some v)) p = tget a.vals p := fun v p hp hna => by
      rw [tget_setv hi, if_neg (hp hna)]
    -- what stands ahead of i stands at the end
    have ahead : ∀ {a' : Acc} {v : AV}, RunIs E T n ops ts r (i + 1) a' fin → a'.vals = Tr.set 12 a.vals i (some v) → (∀ p, p < i → tget fin.vals p = tget a.vals p) ∧ tget fin.vals i = v := fun {a'} {v} hr hv => by
      refine ⟨fun p hp => ?_, ?_⟩
      · rw [hr.vals p (fun k _ _ _ => by omega), hv, tget_setv hi, if_neg (by omega)]
      · rw [hr.vals i (fun k _ _ _ => by omega), hv, tget_setv hi, if_pos rfl]
    split at h
    · rename_i e hk
      have ih := runD_is r (i + 1) a fin h (by omega)
      exact ih.cons ⟨[], rfl⟩ (.inl rfl) (fun h => h) (fun _ _ => rfl) fun _ _ _ => by unfold Fact; rw [hk]; trivial
    · rename_i hk
      have hna : ∀ e, kindOf o ≠ .alloc e := fun e he => by rw [hk] at he; cases he
      split at h
      case h_2 => cases h
      rename_i env henv
      split at h
      · rename_i hw
        have ih := runD_is r (i + 1) _ fin h (by omega)
        obtain ⟨h1, h2⟩ := ahead ih rfl
        refine ih.cons ⟨[], rfl⟩ (.inl rfl) (fun h => h) (fun p hp => setv _ p hp hna) fun _ hltc hpr => ?_
        unfold Fact; rw [hk]
        exact ⟨env, by rw [envOf_congr fun p hp => h1 p (hpr p hp)]; exact henv, fun _ => h2, fun hf => by rw [hw] at hf; cases hf⟩
      · rename_i hw
        split at h
        case h_2 => cases h
        rename_i st sts hsts
        split at h
        case h_2 => cases h
        rename_i v s2 hval
        have ih := runD_is r (i + 1) _ fin h (by omega)
        obtain ⟨h1, h2⟩ := ahead ih rfl
        refine ih.cons ⟨[], rfl⟩ (.inl rfl) (fun h => h) (fun p hp => setv _ p hp hna) fun _ hltc hpr => ?_
        unfold Fact; rw [hk]
        exact ⟨env, by rw [envOf_congr fun p hp => h1 p (hpr p hp)]; exact henv, (fun hf => by rw [hw] at hf; cases hf), fun _ => ⟨st, s2, by rw [h2]; exact hval⟩⟩
    · rename_i hk
      have hna : ∀ e, kindOf o ≠ .alloc e := fun e he => by rw [hk] at he; cases he
      split at h
      case h_2 => cases h
      rename_i env henv
      split at h
      · rename_i hw
        have ih := runD_is r (i + 1) _ fin h (by omega)
        obtain ⟨h1, h2⟩ := ahead ih rfl
        refine ih.cons ⟨[], rfl⟩ (.inl rfl) (fun h => h) (fun p hp => setv _ p hp hna) fun _ hltc hpr => ?_
        unfold Fact; rw [hk]
        refine ⟨env, by rw [envOf_congr fun p hp => h1 p (hpr p hp)]; exact henv, .inl ⟨hw, h2, fun k hC => ?_⟩⟩
        obtain ⟨x, hx, hxm, _⟩ := ih.chain
        have hm : i ∈ fin.chain := List.mem_reverse.1 (List.mem_of_getElem? hC)
        rw [hx] at hm
        rcases List.mem_append.1 hm with hm | hm
        · obtain ⟨k', o', _, _, h3⟩ := hxm i hm
          omega
        · exact absurd (hltc i hm) (Nat.lt_irrefl _)
      · rename_i hw
        split at h
        case h_2 => cases h
        rename_i st sts hsts
        split at h
        case h_2 => cases h
        rename_i v st' hlink hval
        have ih := runD_is r (i + 1) _ fin h (by omega)
        obtain ⟨h1, h2⟩ := ahead ih rfl
        refine ih.cons ⟨[st'], by rw [hsts]; rfl⟩ (.inr ⟨rfl, hk⟩) (fun hl => by rw [hsts] at hl; simp at hl ⊢; omega) (fun p hp => setv _ p hp hna) fun hl hltc hpr => ?_
        unfold Fact; rw [hk]
        refine ⟨env, by rw [envOf_congr fun p hp => h1 p (hpr p hp)]; exact henv, .inr ⟨hw, a.chain.length, st, st', ?_, ?_, ?_, by rw [h2]; exact hval, ?_⟩⟩
        · obtain ⟨x, hx, _⟩ := ih.chain
          unfold Acc.C
          rw [hx]
          exact rev_get x _ (rev_cons_last i a.chain)
        · obtain ⟨x, hx⟩ := ih.sts
          have hlen : sts.length = a.chain.length := by rw [hsts] at hl; simp at hl; omega
          unfold Acc.S
          rw [hx, ← hlen]
          exact rev_get x _ (rev_get [st'] (st :: sts) (rev_cons_last st sts))
        · obtain ⟨x, hx⟩ := ih.sts
          have hlen : sts.length = a.chain.length := by rw [hsts] at hl; simp at hl; omega
          unfold Acc.S
          rw [hx, ← hlen]
          exact rev_get x _ (rev_cons_last st' (st :: sts))
        · intro c hpos hC
          obtain ⟨x, hx, _⟩ := ih.chain
          cases hch : a.chain with
          | nil => rw [hch] at hpos; simp at hpos
          | cons c0 rest =>
            rw [hch] at hlink hC hx
            simp only at hlink
            have : fin.C ((c0 :: rest).length - 1) = some c0 := by
              unfold Acc.C
              rw [hx]
              exact rev_get x _ (rev_get [i] (c0 :: rest) (rev_cons_last c0 rest))
            rw [this] at hC
            cases hC
            exact hlink
end
end
end Go.Ai
end
section
namespace Go.Ai
noncomputable section
section
variable {P : Program} {T : Tbl} {E : Ev} {gl : Nat → Option (List AV)} {D : Nat → Prop} {σ : Nat → Loc} {s : St} {w : World}
def nameOf : AV → Nat
  | .ptr m _ => m
  | _ => 0
def NewVar (T : Tbl) (e : Nat) (v : AV) (m : Nat) (z : AV) : Prop := v = .ptr m 0 ∧ ∃ i d zv, T.ti e = some (i, d) ∧ i.zero = some zv ∧ ofV zv = some z
theorem evAlloc_is {e : Nat} {v : AV} {s' : St} (h : evAlloc T s e = some (v, s')) : ∃ z, NewVar T e v s.next z ∧ s' = s.new (.cells (cellsOf z) 1 true false) ∧ s.next < 16000000 := by
  unfold evAlloc at h
  split at h
  case h_2 => cases h
  rename_i i d ht
  split at h
  case h_2 => cases h
  rename_i zv hz
  split at h
  case h_2 => cases h
  rename_i z hu
  split at h
  case isFalse => cases h
  rename_i hr
  cases h
  exact ⟨z, ⟨rfl, i, d, zv, ht, hz, hu⟩, rfl, room_lt hr⟩
structure LaidBy (T : Tbl) (l : List Oper) (i : Nat) (s s' : St) (vals vals' : Tr AV) : Prop where
  le : s.next ≤ s'.next
  hr : ∀ gl D σ w, HR gl D σ s w → HR gl D σ s' w
  new : ∀ k o e, l[k]? = some o → kindOf o = .alloc e → ∃ m z, NewVar T e (tget vals' (i + k)) m z ∧ s.next ≤ m ∧ m < s'.next
  dif : ∀ k o e k' o' e', l[k]? = some o → kindOf o = .alloc e → l[k']? = some o' → kindOf o' = .alloc e' → k < k' → nameOf (tget vals' (i + k)) < nameOf (tget vals' (i + k'))
  old : ∀ p, p < i → tget vals' p = tget vals p
theorem layBy_is : ∀ (l : List Oper) (i : Nat) (s : St) (vals : Tr AV) (s' : St) (vals' : Tr AV), layBy T l i s vals = some (s', vals') → i + l.length ≤ 4000 → LaidBy T l i s s' vals vals'
  | [], i, s, vals, s', vals', h, _ => by
    cases h
    exact ⟨Nat.le_refl _, fun _ _ _ _ h => h, fun k o e h => by simp at h, fun k o e k' o' e' h => by simp at h, fun _ _ => rfl⟩
  | o :: r, i, s, vals, s', vals', h, hb => by
    simp only [List.length_cons] at hb
    simp only [layBy] at h
    split at h
    · rename_i e hk
      split at h
      case h_2 => cases h
      rename_i v s1 ha
      obtain ⟨z, hz, rfl, hlt⟩ := evAlloc_is ha
      have ih := layBy_is r (i + 1) _ _ s' vals' h (by omega)
      have hn1 : (s.new (.cells (cellsOf z) 1 true false)).next = s.next + 1 := rfl
      have hv : tget vals' i = v := by rw [ih.old i (by omega), tget_set (by omega), if_pos rfl]
      have hle := ih.le
      rw [hn1] at hle
      refine ⟨by omega, fun gl D σ w H => ih.hr gl D σ w (H.reserve _), ?_, ?_, fun p hp => ?_⟩
      · intro k o' e' ho' hk'
        cases k with
        | zero =>
          simp at ho'; subst ho'
          rw [hk] at hk'; cases hk'
          exact ⟨s.next, z, by rw [Nat.add_zero, hv]; exact hz, Nat.le_refl _, by omega⟩
        | succ k =>
          obtain ⟨m, z', h1, h2, h3⟩ := ih.new k o' e' (by simpa using ho') hk'
          rw [hn1] at h2
          exact ⟨m, z', by rwa [show i + 1 + k = i + (k + 1) by omega] at h1, by omega, h3⟩
      · intro k o1 e1 k' o2 e2 h1 h1k h2 h2k hlt'
        cases k' with
        | zero => omega
        | succ k' =>
          cases k with
          | zero =>
            obtain ⟨m, z', g1, g2, g3⟩ := ih.new k' o2 e2 (by simpa using h2) h2k
            rw [show i + 1 + k' = i + (k' + 1) by omega] at g1
            rw [Nat.add_zero, hv, hz.1, g1.1]
            simp only [nameOf]
            rw [hn1] at g2
            omega
          | succ k =>
            have := ih.dif k o1 e1 k' o2 e2 (by simpa using h1) h1k (by simpa using h2) h2k (by omega)
            rwa [show i + 1 + k = i + (k + 1) by omega, show i + 1 + k' = i + (k' + 1) by omega] at this
      · rw [ih.old p (by omega), tget_set (by omega), if_neg (by omega)]
    · rename_i hk
      have ih := layBy_is r (i + 1) s vals s' vals' h (by omega)
      refine ⟨ih.le, ih.hr, ?_, ?_, fun p hp => ih.old p (by omega)⟩
      · intro k o' e' ho' hk'
        cases k with
        | zero => simp at ho'; subst ho'; exact (hk _ hk').elim
        | succ k =>
          obtain ⟨m, z', h1, h2, h3⟩ := ih.new k o' e' (by simpa using ho') hk'
          exact ⟨m, z', by rwa [show i + 1 + k = i + (k + 1) by omega] at h1, h2, h3⟩
      · intro k o1 e1 k' o2 e2 h1 h1k h2 h2k hlt'
        cases k' with
        | zero => omega
        | succ k' =>
          cases k with
          | zero => simp at h1; subst h1; exact (hk _ h1k).elim
          | succ k =>
            have := ih.dif k o1 e1 k' o2 e2 (by simpa using h1) h1k (by simpa using h2) h2k (by omega)
            rwa [show i + 1 + k = i + (k + 1) by omega, show i + 1 + k' = i + (k' + 1) by omega] at this
end
end
end Go.Ai
end
section
namespace Go.Ai
noncomputable section
section
variable {P : Program} {T : Tbl} {E : Ev} {gl : Nat → Option (List AV)} {D : Nat → Prop} {σ : Nat → Loc} {s : St} {w : World}
def posOK (ops : Array Oper) (i : Nat) (o : Oper) (j : Nat) : List Nat → Nat → Bool
  | [], _ => true
  | c :: r, k => (!memN c (preds o) || Nat.blt k j) && (match ops[c]? with
    | some oc => !memN i (preds oc) || Nat.ble j k
    | none => true) && posOK ops i o j r (k + 1)
theorem posOK_of {ops : Array Oper} {i : Nat} {o : Oper} {j : Nat} : ∀ {l : List Nat} {k0 : Nat}, (∀ k c, l[k]? = some c → c ∈ preds o → k0 + k < j) → (∀ k c oc, l[k]? = some c → ops[c]? = some oc → i ∈ preds oc → j ≤ k0 + k) → posOK ops i o j l k0 = true
  | [], _, _, _ => rfl
  | c :: r, k0, h1, h2 => by
    simp only [posOK, Bool.and_eq_true]
    refine ⟨⟨?_, ?_⟩, posOK_of (fun k c' hc hm => by have := h1 (k + 1) c' (by simpa using hc) hm; omega) (fun k c' oc hc ho hm => by have := h2 (k + 1) c' oc (by simpa using hc) ho hm; omega)⟩
    · by_cases hm : c ∈ preds o
      · have := h1 0 c rfl hm
        simp [Nat.blt_eq]; right; omega
      · have : memN c (preds o) = false := by rw [Bool.eq_false_iff]; intro h; exact hm (memN_iff.1 h)
        simp [this]
    · split
      · rename_i oc hoc
        by_cases hm : i ∈ preds oc
        · have := h2 0 c oc rfl hoc hm
          simp [Nat.ble_eq]; right; omega
        · have : memN i (preds oc) = false := by rw [Bool.eq_false_iff]; intro h; exact hm (memN_iff.1 h)
          simp [this]
      · rfl
def chkAt (pos : Nat → Bool) (test : St → Bool) : List St → Nat → Bool
  | [], _ => true
  | st :: r, j => (match test st with
    | true => true
    | false => !(pos j)) && chkAt pos test r (j + 1)
theorem chkAt_iff {pos : Nat → Bool} {test : St → Bool} : ∀ {l : List St} {j0 : Nat}, chkAt pos test l j0 = true → ∀ j st, l[j]? = some st → pos (j0 + j) = true → test st = true
  | st :: r, j0, h, 0, x, hx, hp => by
    simp at hx; subst hx
    simp only [chkAt, Bool.and_eq_true] at h
    rw [Nat.add_zero] at hp
    rw [hp] at h
    cases ht : test st with
    | true => rfl
    | false => rw [ht] at h; exact absurd h.1 (by simp)
  | st :: r, j0, h, j + 1, x, hx, hp => by
    simp only [chkAt, Bool.and_eq_true] at h
    exact chkAt_iff h.2 j x (by simpa using hx) (by rwa [show j0 + 1 + j = j0 + (j + 1) by omega])
  | [], _, _, j, x, hx, _ => by simp at hx
noncomputable def chkOp (E : Ev) (T : Tbl) (n : Nat) (ops : Array Oper) (ts : Tr AV) (fin : Acc) (i : Nat) (o : Oper) : Bool :=
  match kindOf o with
  | .alloc e => match zeroV T e with
    | some z => chkAt (fun j => posOK ops i o j fin.chain.reverse 0) (fun st => match st.get (nameOf (tget fin.vals i)) with
      | some x => eqObj x (.cells (cellsOf z) 1 true false)
      | none => false) fin.sts.reverse 0
    | none => false
  | .float => match isPure o.op with
    | true => true
    | false => match envOf ops n fin.vals (preds o) ts with
    | some env => match wantedA ops n env o with
      | false => true
      | true => chkAt (fun j => posOK ops i o j fin.chain.reverse 0) (fun st => match evVal E T n env st o with
        | some (v, _) => eqAV v (tget fin.vals i)
        | none => false) fin.sts.reverse 0
    | none => false
  | .effect => true
noncomputable def finTs (ops : Array Oper) (n : Nat) (vals : Tr AV) : List Oper → Nat → Tr AV → Option (Tr AV)
  | [], _, ts => some ts
  | o :: r, i, ts => match tput n o.dst (tget vals i) ts with
    | some ts' => finTs ops n vals r (i + 1) ts'
    | none => none
noncomputable def evDraw (E : Ev) (T : Tbl) (ops : Array Oper) (n : Nat) (_ro : Option Nat) (ts : Tr AV) (ds : List ADef) (s : St) : Option (List Out) :=
  match okText ops && Nat.ble ops.size 4000 with
  | true => match layBy T ops.toList 0 s .leaf with
    | some (s0, vals0) => match runD E T n ops ts ops.toList 0 ⟨vals0, [s0], []⟩ with
      | some fin => match allIdx (chkOp E T n ops ts fin) ops.toList 0 && fin.sts.all (fun st => Nat.ble s0.next st.next), fin.sts, finTs ops n fin.vals ops.toList 0 ts with
        | true, sN :: _, some ts' => some [⟨.normal, ts', ds, sN⟩]
        | _, _, _ => none
      | none => none
    | none => none
  | false => none
def gL (ops : Array Oper) (V base : Nat → AV) (L : Nat → Bool) (t : Nat) : AV :=
  match (List.range ops.size).find? (fun i => L i && ((ops[i]?).bind (·.dst) == some t)) with
  | some i => V i
  | none => base t
theorem gL_hit {ops : Array Oper} (hx : TextOK ops) {V base : Nat → AV} {L : Nat → Bool} {i t : Nat} {o : Oper} (ho : ops[i]? = some o) (hL : L i = true) (hd : o.dst = some t) : gL ops V base L t = V i := by
  have hi : i < ops.size := (Array.getElem?_eq_some_iff.1 ho).1
  unfold gL
  cases hf : (List.range ops.size).find? (fun i => L i && ((ops[i]?).bind (·.dst) == some t)) with
  | none =>
    have := List.find?_eq_none.1 hf i (List.mem_range.2 hi)
    simp [hL, ho, hd] at this
  | some k =>
    have hk := List.find?_some hf
    simp only [Bool.and_eq_true, beq_iff_eq] at hk
    obtain ⟨_, hk⟩ := hk
    cases hok : ops[k]? with
    | none => rw [hok] at hk; cases hk
    | some ok =>
      rw [hok] at hk
      have : i = k := hx.dst i o k ok t ho hok hd (by simpa using hk)
      rw [this]
theorem gL_miss {ops : Array Oper} {V base : Nat → AV} {L : Nat → Bool} {t : Nat} (h : ∀ i o, ops[i]? = some o → L i = true → o.dst ≠ some t) : gL ops V base L t = base t := by
  unfold gL
  cases hf : (List.range ops.size).find? (fun i => L i && ((ops[i]?).bind (·.dst) == some t)) with
  | none => rfl
  | some k =>
    have hk := List.find?_some hf
    simp only [Bool.and_eq_true, beq_iff_eq] at hk
    obtain ⟨hl, hk⟩ := hk
    cases hok : ops[k]? with
    | none => rw [hok] at hk; cases hk
    | some ok => rw [hok] at hk; exact (h k ok hok hl (by simpa using hk)).elim
end
end
end Go.Ai
end
section
namespace Go.Ai
noncomputable section
section
variable {P : Program} {T : Tbl} {E : Ev} {gl : Nat → Option (List AV)} {D : Nat → Prop} {σ : Nat → Loc} {s : St} {w : World}
theorem tput_get {n : Nat} {dst : Option Tmp} {v : AV} {ts ts' : Tr AV} (h : tput n dst v ts = some ts') (t : Nat) : tget ts' t = if dst = some t then v else tget ts t := by
  unfold tput at h
  split at h
  · cases h; simp
  · rename_i d
    split at h
    case h_2 => cases h
    rename_i hd
    simp only [Bool.and_eq_true, Nat.blt_eq] at hd
    cases h
    rw [tget_set hd.2]
    by_cases ht : t = d
    · subst ht; simp
    · rw [if_neg ht, if_neg (fun e => by cases e; exact ht rfl)]
theorem envOf_hit {ops : Array Oper} (hx : TextOK ops) {n : Nat} {vals : Tr AV} : ∀ {l : List Nat} {ts env : Tr AV}, envOf ops n vals l ts = some env → ∀ (t : Nat),
    (∀ p ∈ l, ∀ o, ops[p]? = some o → o.dst = some t → tget env t = tget vals p) ∧ ((∀ p ∈ l, ∀ o, ops[p]? = some o → o.dst ≠ some t) → tget env t = tget ts t)
  | [], ts, env, h, t => by cases h; exact ⟨by simp, fun _ => rfl⟩
  | p :: r, ts, env, h, t => by
    simp only [envOf] at h
    split at h
    case h_2 => cases h
    rename_i o ho
    split at h
    case h_2 => cases h
    rename_i ts1 h1
    obtain ⟨ih1, ih2⟩ := envOf_hit hx h t
    have hg := tput_get h1 t
    refine ⟨fun q hq oq hoq hdq => ?_, fun hm => ?_⟩
    · by_cases hex : ∃ p' ∈ r, ∃ o', ops[p']? = some o' ∧ o'.dst = some t
      · obtain ⟨p', hp', o', ho', hd'⟩ := hex
        have : q = p' := hx.dst q oq p' o' t hoq ho' hdq hd'
        subst this
        exact ih1 _ hp' o' ho' hd'
      · rw [ih2 fun p' hp' o' ho' hd' => hex ⟨p', hp', o', ho', hd'⟩, hg]
        rcases List.mem_cons.1 hq with rfl | hq
        · rw [ho] at hoq; cases hoq
          rw [if_pos hdq]
        · exact (hex ⟨q, hq, oq, hoq, hdq⟩).elim
    · rw [ih2 fun p' hp' o' ho' => hm p' (.tail _ hp') o' ho', hg, if_neg (hm p (.head _) o ho)]
theorem finTs_get {ops : Array Oper} {n : Nat} {vals : Tr AV} : ∀ {l : List Oper} {i : Nat} {ts ts' : Tr AV}, finTs ops n vals l i ts = some ts' → ∀ (t : Nat),
    (∀ (k : Nat) (o : Oper), l[k]? = some o → o.dst = some t → (∀ (k' : Nat) (o' : Oper), l[k']? = some o' → o'.dst = some t → k' = k) → tget ts' t = tget vals (i + k)) ∧ ((∀ (k : Nat) (o : Oper), l[k]? = some o → o.dst ≠ some t) → tget ts' t = tget ts t)
  | [], i, ts, ts', h, t => by cases h; exact ⟨fun k o h => by simp at h, fun _ => rfl⟩
  | o :: r, i, ts, ts', h, t => by
    simp only [finTs] at h
    split at h
    case h_2 => cases h
    rename_i ts1 h1
    obtain ⟨ih1, ih2⟩ := finTs_get h t
    have hg := tput_get h1 t
    refine ⟨fun k ok hk hd hu => ?_, fun hm => ?_⟩
    · cases k with
      | zero =>
        simp at hk; subst hk
        rw [ih2 fun k' o' ho' hd' => by have := hu (k' + 1) o' (by simpa using ho') hd'; omega, hg, if_pos hd, Nat.add_zero]
      | succ k =>
        have := ih1 k ok (by simpa using hk) hd fun k' o' ho' hd' => by have := hu (k' + 1) o' (by simpa using ho') hd'; omega
        rw [this]; congr 1; omega
    · rw [ih2 fun k' o' ho' => hm (k' + 1) o' (by simpa using ho'), hg, if_neg (hm 0 o rfl)]
end
end
end Go.Ai
end
section
namespace Go.Ai
noncomputable section
def tarrF (σ : Nat → Loc) (n : Nat) (g : Nat → AV) : Array Value := ((List.range n).map fun t => conc σ (g t)).toArray
theorem tarrF_ext {σ τ : Nat → Loc} {D : Nat → Prop} (h : ∀ n, D n → τ n = σ n) {g : Nat → AV} (hc : ∀ t, (g t).cl D) (n : Nat) : tarrF τ n g = tarrF σ n g := by
  unfold tarrF
  congr 1
  exact List.map_congr_left fun t _ => conc_ext h _ (hc t)
theorem tarrF_congr (σ : Nat → Loc) (n : Nat) {g g' : Nat → AV} (h : ∀ t, g t = g' t) : tarrF σ n g = tarrF σ n g' := by
  rw [show g = g' from funext h]
theorem tarrF_put (σ : Nat → Loc) (n : Nat) (g : Nat → AV) (ds : List Deferred) (dst : Option Tmp) (v : AV) :
    ({ tmps := tarrF σ n g, defers := ds } : Act).put dst (conc σ v) = { tmps := tarrF σ n (fun t => if dst = some t then v else g t), defers := ds } := by
  cases dst with
  | none => simp [Act.put]
  | some d =>
    simp only [Act.put, Act.mk.injEq, and_true]
    have hs : ∀ g : Nat → AV, (tarrF σ n g).size = n := fun g => by simp [tarrF]
    have hg : ∀ (g : Nat → AV) (i : Nat), i < n → (tarrF σ n g)[i]? = some (conc σ (g i)) := fun g i hi => by simp [tarrF, hi]
    apply Array.ext_getElem?
    intro i
    rw [Array.getElem?_setIfInBounds]
    rcases Nat.lt_or_ge i n with hi | hi
    · have e1 := hg (fun t => if some d = some t then v else g t) i hi
      have e2 := hg g i hi
      rw [e1]
      by_cases h : d = i
      · subst h; rw [if_pos rfl, if_pos (by rw [hs]; exact hi)]; simp
      · rw [if_neg h, e2, if_neg (fun e => h (by cases e; rfl))]
    · have e1 : (tarrF σ n fun t => if some d = some t then v else g t)[i]? = none := Array.getElem?_eq_none (by rw [hs]; exact hi)
      have e2 : (tarrF σ n g)[i]? = none := Array.getElem?_eq_none (by rw [hs]; exact hi)
      rw [e1]
      by_cases h : d = i
      · rw [if_pos h, if_neg (by have h2 : d = i := h; rw [hs, h2]; omega)]
      · rw [if_neg h, e2]
section
variable {P : Program} {T : Tbl} {E : Ev} {gl : Nat → Option (List AV)} {D : Nat → Prop} {σ : Nat → Loc} {s : St} {w : World}
def isL (L : Array Bool) (i : Nat) : Bool := L[i]? == some true
theorem isL_set {L : Array Bool} {i : Nat} (hi : i < L.size) (k : Nat) : isL (L.setIfInBounds i true) k = (isL L k || k == i) := by
  unfold isL
  rw [Array.getElem?_setIfInBounds]
  by_cases h : i = k
  · subst h; rw [if_pos rfl, if_pos hi]; simp
  · have : (k == i) = false := by simp; exact fun e => h e.symm
    rw [if_neg h, this, Bool.or_false]
structure DInv (T : Tbl) (ops : Array Oper) (n : Nat) (ts : Tr AV) (ds : List ADef) (fin : Acc) (N : Nat) (D0 : Nat → Prop) (σ0 : Nat → Loc) (w0 : World) (L : Array Bool) (a : Act) (w : World) (j : Nat) (D : Nat → Prop) (σ : Nat → Loc) : Prop where
  size : L.size = ops.size
  down : ∀ (i : Nat) (o : Oper), ops[i]? = some o → isL L i = true → ∀ p ∈ preds o, isL L p = true
  chain : ∀ k c, fin.C k = some c → (isL L c = true ↔ k < j)
  hr : ∀ st, fin.S j = some st → HR T.gl D σ st w ∧ N ≤ st.next
  ext : Ext N D0 σ0 w0 D σ w
  act : a = { tmps := tarrF σ n (gL ops (tget fin.vals) (tget ts) (isL L)), defers := dconc σ ds }
  cl : ∀ t, (gL ops (tget fin.vals) (tget ts) (isL L) t).cl D
  new : ∀ (i : Nat) (o : Oper) (e : Nat), ops[i]? = some o → kindOf o = .alloc e → isL L i = false → ¬ D (nameOf (tget fin.vals i))
theorem DInv.more {ops : Array Oper} (hx : TextOK ops) {n : Nat} {ts : Tr AV} {ds : List ADef} {fin : Acc} {N : Nat} {D0 : Nat → Prop} {σ0 : Nat → Loc} {w0 : World} {L : Array Bool} {a : Act} {j : Nat} (hd0 : dcl D0 ds)
    (h : DInv T ops n ts ds fin N D0 σ0 w0 L a w j D σ) {i : Nat} {o : Oper} (ho : ops[i]? = some o) (hL : isL L i = false) (hpre : ∀ p ∈ preds o, isL L p = true)
    {j' : Nat} (hj : (j' = j ∧ ∀ k, fin.C k ≠ some i) ∨ (j' = j + 1 ∧ fin.C j = some i ∧ ∀ k, fin.C k = some i → k = j)) {D' : Nat → Prop} {σ' : Nat → Loc} {w' : World} {N' : Nat} (hE : Ext N' D σ w D' σ' w') (hN : N ≤ N')
    (hH : ∀ st, fin.S j' = some st → HR T.gl D' σ' st w' ∧ N ≤ st.next) (hv : (tget fin.vals i).cl D')
    (hnew : ∀ (k : Nat) (ok : Oper) (e : Nat), ops[k]? = some ok → kindOf ok = .alloc e → isL L k = false → k ≠ i → ¬ D' (nameOf (tget fin.vals k))) :
    DInv T ops n ts ds fin N D0 σ0 w0 (L.setIfInBounds i true) (a.put o.dst (conc σ' (tget fin.vals i))) w' j' D' σ' := by
  have hi : i < L.size := by rw [h.size]; exact (Array.getElem?_eq_some_iff.1 ho).1
  have hs := fun k => isL_set (L := L) hi k
  have hE0 := h.ext.trans hE hN
  have hg : ∀ t, (if o.dst = some t then tget fin.vals i else gL ops (tget fin.vals) (tget ts) (isL L) t) = gL ops (tget fin.vals) (tget ts) (isL (L.setIfInBounds i true)) t := by
    intro t
    by_cases ht : o.dst = some t
    · rw [if_pos ht, gL_hit hx ho (by rw [hs]; simp) ht]
    · rw [if_neg ht]
      by_cases hex : ∃ k ok, ops[k]? = some ok ∧ isL L k = true ∧ ok.dst = some t
      · obtain ⟨k, ok, h1, h2, h3⟩ := hex
        rw [gL_hit hx h1 h2 h3, gL_hit hx h1 (by rw [hs, h2]; rfl) h3]
      · rw [gL_miss fun k ok h1 h2 h3 => hex ⟨k, ok, h1, h2, h3⟩, gL_miss fun k ok h1 h2 h3 => ?_]
        rw [hs] at h2
        simp only [Bool.or_eq_true, beq_iff_eq] at h2
        rcases h2 with h2 | rfl
        · exact hex ⟨k, ok, h1, h2, h3⟩
        · rw [ho] at h1; cases h1; exact ht h3
  refine ⟨by simp [h.size], fun k ok hk hlk p hp => ?_, fun k c hc => ?_, hH, hE0, ?_, fun t => ?_, fun k ok e hk hke hlk => ?_⟩
  · rw [hs] at hlk ⊢
    simp only [Bool.or_eq_true, beq_iff_eq] at hlk ⊢
    rcases hlk with hlk | rfl
    · exact .inl (h.down k ok hk hlk p hp)
    · rw [ho] at hk; cases hk; exact .inl (hpre p hp)
  · rw [hs]
    simp only [Bool.or_eq_true, beq_iff_eq]
    have h0 := h.chain k c hc
    rcases hj with ⟨rfl, hno⟩ | ⟨rfl, hCj, hu⟩
    · have : c ≠ i := fun e => hno k (by rw [← e]; exact hc)
      simp [this, h0]
    · by_cases hci : c = i
      · subst hci
        have := hu k hc
        subst this
        simp
      · have hkj : k ≠ j := fun e => by subst e; rw [hCj] at hc; cases hc; exact hci rfl
        simp only [hci, or_false, h0]
        omega
  · rw [h.act]
    rw [← tarrF_ext hE.agree h.cl, ← dconc_ext hE.agree (dcl_mono h.ext.sub hd0)]
    rw [tarrF_put]
    simp only [Act.mk.injEq, and_true]
    exact tarrF_congr σ' n hg
  · rw [← hg t]
    split
    · exact hv
    · exact AV.cl_mono hE.sub _ (h.cl t)
  · rw [hs] at hlk
    simp only [Bool.or_eq_false_iff, beq_eq_false_iff_ne] at hlk
    exact hnew k ok e hk hke hlk.1 hlk.2
end
end
end Go.Ai
end
section
namespace Go.Ai
noncomputable section
section
variable {P : Program} {T : Tbl} {E : Ev} {gl : Nat → Option (List AV)} {D : Nat → Prop} {σ : Nat → Loc} {s : St} {w : World}
def undone : List Bool → Nat
  | [] => 0
  | true :: r => undone r
  | false :: r => undone r + 1
theorem undone_set : ∀ {l : List Bool} {i : Nat}, l[i]? = some false → undone (l.set i true) + 1 = undone l
  | b :: r, 0, h => by simp at h; subst h; rfl
  | b :: r, i + 1, h => by
    have := undone_set (l := r) (i := i) (by simpa using h)
    cases b <;> simp only [List.set_cons_succ, undone] <;> omega
  | [], i, h => by simp at h
theorem undone_zero : ∀ {l : List Bool}, undone l = 0 → ∀ (i : Nat) (b : Bool), l[i]? = some b → b = true
  | true :: r, h, 0, b, hb => by simp at hb; exact hb
  | true :: r, h, i + 1, b, hb => undone_zero (l := r) h i b (by simpa using hb)
  | false :: r, h, _, _, _ => by simp [undone] at h
  | [], _, i, b, hb => by simp at hb
theorem undone_all (n : Nat) : undone (List.replicate n false) = n := by
  induction n with
  | zero => rfl
  | succ n ih => simp [List.replicate_succ, undone, ih]
theorem ready_iff {ops : Array Oper} {L : Array Bool} {i : Nat} (hs : L.size = ops.size) : i ∈ Region.ready .any ops L ↔ ∃ o, ops[i]? = some o ∧ isL L i = false ∧ ∀ p ∈ preds o, isL L p = true := by
  unfold Region.ready
  simp only [List.mem_filter, List.mem_range, Bool.and_eq_true, Bool.not_eq_true']
  have gd : ∀ (k : Nat) (b : Bool), k < ops.size → L.getD k b = isL L k := fun k b hk => by
    unfold isL
    rw [Array.getD_eq_getD_getElem?, Array.getElem?_eq_getElem (by omega)]
    cases L[k]'(by omega) <;> rfl
  constructor
  · rintro ⟨hi, h1, h2⟩
    refine ⟨ops[i], by simp [hi], by rw [← gd i true hi]; exact h1, fun p hp => ?_⟩
    rw [Array.getElem?_eq_getElem hi] at h2
    simp only [Option.map_some, Option.getD_some, Array.all_eq_true_iff_forall_mem] at h2
    unfold preds at hp
    obtain ⟨e, he, rfl⟩ := List.mem_map.1 hp
    obtain ⟨he1, he2⟩ := List.mem_filter.1 he
    have h3 := h2 e (Array.mem_toList_iff.1 he1)
    rw [he2] at h3
    simp only [Bool.not_true, Bool.false_or] at h3
    unfold isL
    cases hL : L[e.on]? with
    | none => rw [Array.getD_eq_getD_getElem?, hL] at h3; cases h3
    | some b => rw [Array.getD_eq_getD_getElem?, hL] at h3; simp at h3; subst h3; rfl
  · rintro ⟨o, ho, h1, h2⟩
    have hi : i < ops.size := (Array.getElem?_eq_some_iff.1 ho).1
    refine ⟨hi, by rw [gd i true hi]; exact h1, ?_⟩
    rw [ho]
    simp only [Option.map_some, Option.getD_some, Array.all_eq_true_iff_forall_mem]
    intro e he
    cases hb : Region.binds .any e with
    | false => rfl
    | true =>
      have hp : e.on ∈ preds o := List.mem_map.2 ⟨e, List.mem_filter.2 ⟨Array.mem_toList_iff.2 he, hb⟩, rfl⟩
      have h3 := h2 _ hp
      unfold isL at h3
      simp only [Bool.not_true, Bool.false_or]
      rw [Array.getD_eq_getD_getElem?]
      rw [beq_iff_eq] at h3
      rw [h3]; rfl
theorem looked {ops : Array Oper} (hx : TextOK ops) {n : Nat} {vals ts env : Tr AV} {o : Oper} {i : Nat} {L : Nat → Bool} (ho : ops[i]? = some o) (henv : envOf ops n vals (preds o) ts = some env) (hpre : ∀ p ∈ preds o, L p = true)
    (hLi : L i = false) (hdown : ∀ (k : Nat) (ok : Oper), ops[k]? = some ok → L k = true → ∀ p ∈ preds ok, L p = true) {t : Nat} (ht : t ∈ o.looksAt ops) :
    gL ops (tget vals) (tget ts) L t = tget env t := by
  obtain ⟨e1, e2⟩ := envOf_hit hx henv t
  by_cases hex : ∃ (p : Nat) (op : Oper), ops[p]? = some op ∧ op.dst = some t
  · obtain ⟨p, op, h1, h2⟩ := hex
    rcases hx.look i o p op t ho h1 h2 ht with hp | hp
    · rw [gL_hit hx h1 (hpre p hp) h2, e1 p hp op h1 h2]
    · have hLp : L p ≠ true := fun h => by
        have := hdown p op h1 h i hp
        rw [hLi] at this; cases this
      rw [gL_miss fun k ok hk hl hd => hLp (by rw [hx.dst p op k ok t h1 hk h2 hd]; exact hl), e2 fun p' hp' op' hop' hd' => by
        have : p = p' := hx.dst p op p' op' t h1 hop' h2 hd'
        subst this
        have a1 := hx.small i o ho p hp'
        have a2 := hx.small p op h1 i hp
        omega]
  · rw [gL_miss fun k ok hk _ hd => hex ⟨k, ok, hk, hd⟩, e2 fun p _ op hop hd => hex ⟨p, op, hop, hd⟩]
theorem env_cl {ops : Array Oper} (hx : TextOK ops) {n : Nat} {vals ts env : Tr AV} {o : Oper} {L : Nat → Bool} (henv : envOf ops n vals (preds o) ts = some env) (hpre : ∀ p ∈ preds o, L p = true) (hts : tcl D ts)
    (hc : ∀ t, (gL ops (tget vals) (tget ts) L t).cl D) : tcl D env := by
  intro t v hv
  have hv' : tget env t = v := by unfold tget; rw [hv]; rfl
  obtain ⟨e1, e2⟩ := envOf_hit hx henv t
  by_cases hex : ∃ p ∈ preds o, ∃ op : Oper, ops[p]? = some op ∧ op.dst = some t
  · obtain ⟨p, hp, op, h1, h2⟩ := hex
    have := hc t
    rw [gL_hit hx h1 (hpre p hp) h2, ← e1 p hp op h1 h2, hv'] at this
    exact this
  · rw [e2 fun p hp op hop hd => hex ⟨p, hp, op, hop, hd⟩] at hv'
    rw [← hv']; exact tget_cl hts t
theorem wanted_agree {ops : Array Oper} {n : Nat} {env : Tr AV} {o : Oper} {G : Nat → AV} (h : ∀ t ∈ o.looksAt ops, G t = tget env t) (σ : Nat → Loc) : Region.wanted o (yielded ops (tarrF σ n G)) = wantedA ops n env o := by
  rw [← wanted_tarr (σ := σ)]
  unfold Region.wanted
  cases hg : o.guard with
  | none => rfl
  | some p =>
    obtain ⟨g, want⟩ := p
    have : yielded ops (tarrF σ n G) g = yielded ops (tarr σ n env) g := by
      unfold yielded
      cases hd : (ops[g]?).bind (·.dst) with
      | none => rfl
      | some t =>
        have ht : t ∈ o.looksAt ops := by
          unfold Oper.looksAt
          rw [hg]
          simp only
          rw [hd]
          exact List.mem_append_right _ (by simp)
        have : (tarrF σ n G)[t]? = (tarr σ n env)[t]? := by
          rcases Nat.lt_or_ge t n with hlt | hge
          · rw [tarr_get σ env hlt]; simp [tarrF, hlt, h t ht]
          · rw [Array.getElem?_eq_none (by simp [tarrF]; exact hge), Array.getElem?_eq_none (by simp [tarr]; exact hge)]
        simp only [Option.bind_some, this]
    simp only [this]
theorem eval_agree {ops : Array Oper} {n : Nat} {env : Tr AV} {o : Oper} {G : Nat → AV} (h : ∀ t ∈ o.looksAt ops, G t = tget env t) (σ : Nat → Loc) (ds : List Deferred) :
    ∀ x ∈ o.op.operands, ({ tmps := tarrF σ n G, defers := ds } : Act).eval x = (acts σ n env []).eval x := by
  intro x hx
  cases x with
  | tmp t =>
    have ht : t ∈ o.looksAt ops := List.mem_append_left _ (List.mem_filterMap.2 ⟨.tmp t, by simpa using hx, rfl⟩)
    simp only [Act.eval, acts, Array.getD_eq_getD_getElem?]
    rcases Nat.lt_or_ge t n with hlt | hge
    · rw [tarr_get σ env hlt]; simp [tarrF, hlt, h t ht]
    · rw [Array.getElem?_eq_none (by simp [tarrF]; exact hge), Array.getElem?_eq_none (by simp [tarr]; exact hge)]
  | const v => rfl
  | global g => rfl
  | func f => rfl
end
end
end Go.Ai
end
