/- An evaluator of the model, proved right: what it answers holds for every world and tape. -/
import Derived.Test.YtgliaoanlhbepaaGreatDoorA4
set_option linter.unusedVariables false
set_option linter.unusedSimpArgs false
section
namespace Go.Ai
noncomputable section
section
variable {P : Program} {T : aX} {E : Ev} {gl : Nat → Option (List AV)} {D : Nat → Prop} {σ : Nat → Loc} {s : St} {w : World}
theorem WG {o : Oper} {e : Nat} (h : kindOf o = .alloc e) : o.op = .alloc e ∧ o.guard = none := by
 unfold kindOf at h
 split at h
 ·rename_i e' hop
  split at h
  ·rename_i hg; cases h; exact ⟨hop, hg⟩
  ·cases h
 all_goals first | cases h | (split at h <;> cases h)
theorem PX : ∀ {l : List Nat}, l.Pairwise (· > ·) → ∀ {i j : Nat} {c : Nat}, l[i]? = some c → l[j]? = some c → i = j
 | [], _, i, j, c, h, _ => by simp at h
 | a :: r, hp, i, j, c, hi, hj => by
  obtain ⟨h1, h2⟩ := List.pairwise_cons.1 hp
  cases i with
  | zero =>
   simp at hi
   cases j with
   | zero => rfl
   | succ j =>
    have hm := h1 c (List.mem_of_getElem? (by simpa using hj))
    subst hi
    exact absurd hm (Nat.lt_irrefl _)
  | succ i =>
   cases j with
   | zero =>
    simp at hj
    have hm := h1 c (List.mem_of_getElem? (by simpa using hi))
    subst hj
    exact absurd hm (Nat.lt_irrefl _)
   | succ j => exact congrArg (· + 1) (PX (c := c) h2 (by simpa using hi) (by simpa using hj))
theorem WH (hT : dM P T) (hE : kE P T E) : JA P T (yH E T) := by
 intro ops id n ro ts ds s outs h D0 σ0 w0 H0 hc hd hro
 unfold yH at h
 split at h
 case h_2 => cases h
 rename_i hcond
 simp only [Bool.and_eq_true, Nat.ble_eq] at hcond
 obtain ⟨htx, hsz⟩ := hcond
 have hx := Wp htx
 split at h
 case h_2 => cases h
 rename_i s0 yI WI
 split at h
 case h_2 => cases h
 rename_i fin hrun
 split at h
 case h_2 => cases h
 rename_i sN eY ts' FZ wF hts
 cases h
 simp only [Bool.and_eq_true] at FZ
 obtain ⟨FZ, hmono⟩ := FZ
 have hl : ops.toList.length = ops.size := Array.length_toList
 have LB := JF ops.toList 0 s .leaf s0 yI WI (by omega)
 have RU := Bu ops.toList 0 ⟨yI, [s0], []⟩ fin hrun (by omega)
 have get : ∀ {i : Nat} {o : Oper}, ops[i]? = some o ↔ ops.toList[i]? = some o := by intro i o; rw [Array.getElem?_toList]
 have hlen : fin.eY.length = fin.chain.length + 1 := RU.len rfl
 have hfact : ∀ i o, ops[i]? = some o → Fact E T n ops ts fin i o := fun i o ho => by
  have := RU.fact rfl (by simp) (fun k ok hk p hp => by rw [Nat.zero_add]; exact hx.small k ok (get.2 hk) p hp) i o (get.1 ho)
  rwa [Nat.zero_add] at this
 have PY : ∀ i o, ops[i]? = some o → sG E T n ops ts fin i o = true := fun i o ho => by
  have := FV FZ i o (get.1 ho)
  rwa [Nat.zero_add] at this
 obtain ⟨xc, hxc, hmem, hpw⟩ := RU.chain
 simp only [List.append_nil] at hxc
 have PZ : ∀ k c, fin.C k = some c → ∃ o, ops[c]? = some o ∧ kindOf o = .effect := fun k c hC => by
  have hm : c ∈ xc := by
   unfold Acc.C at hC
   rw [hxc] at hC
   exact List.mem_reverse.1 (List.mem_of_getElem? hC)
  obtain ⟨k', o, h1, h2, h3⟩ := hmem c hm
  rw [Nat.zero_add] at h3
  subst h3
  exact ⟨o, get.2 h1, h2⟩
 have WJ : ∀ k k' c, fin.C k = some c → fin.C k' = some c → k = k' := fun k k' c h1 h2 => by
  unfold Acc.C at h1 h2
  have l1 : k < fin.chain.length := by have := (List.getElem?_eq_some_iff.1 h1).1; simpa using this
  have l2 : k' < fin.chain.length := by have := (List.getElem?_eq_some_iff.1 h2).1; simpa using this
  rw [List.getElem?_reverse l1] at h1
  rw [List.getElem?_reverse l2] at h2
  rw [hxc] at h1 h2
  have := PX hpw h1 h2
  rw [hxc] at l1 l2
  omega
 have P5 : ∀ k, k < fin.chain.length → ∃ c, fin.C k = some c := fun k hk => ⟨fin.chain.reverse[k]'(by simpa using hk), by unfold Acc.C; simp [hk]⟩
 have WK : ∀ j, j ≤ fin.chain.length → ∃ st, fin.S j = some st := fun j hj => ⟨fin.eY.reverse[j]'(by simp; omega), by unfold Acc.S; rw [List.getElem?_eq_getElem]⟩
 have hS0 : fin.S 0 = some s0 := by
  obtain ⟨x, hxs⟩ := RU.eY
  unfold Acc.S
  rw [hxs]
  exact yE x [s0] rfl
 have P6 : fin.S fin.chain.length = some sN := by
  have hs1 : eY.length = fin.chain.length := by rw [wF] at hlen; simpa using hlen
  unfold Acc.S
  rw [wF, ← hs1]
  exact Dj sN eY
 have F3 : ∀ j st, fin.S j = some st → s0.next ≤ st.next := fun j st hS => by
  have hm : st ∈ fin.eY := List.mem_reverse.1 (List.mem_of_getElem? hS)
  have := List.all_eq_true.1 hmono st hm
  simpa [Nat.ble_eq] using this
 have JK : ∀ i o e, ops[i]? = some o → kindOf o = .alloc e → ∃ m z, JE T e (bV fin.vals i) m z ∧ s.next ≤ m ∧ m < s0.next := fun i o e ho hk => by
  obtain ⟨m, z, h1, h2, h3⟩ := LB.new i o e (get.1 ho) hk
  rw [Nat.zero_add] at h1
  refine ⟨m, z, ?_, h2, h3⟩
  rw [RU.vals i fun k ok hok hna => by
   rw [Nat.zero_add]
   intro e'
   subst e'
   rw [get.1 ho] at hok
   cases hok
   exact hna e hk]
  exact h1
 have WL : ∀ i o e i' o' e', ops[i]? = some o → kindOf o = .alloc e → ops[i']? = some o' → kindOf o' = .alloc e' → i ≠ i' → nameOf (bV fin.vals i) ≠ nameOf (bV fin.vals i') := fun i o e i' o' e' ho hk ho' hk' hne => by
  have hv : ∀ i o e, ops[i]? = some o → kindOf o = .alloc e → bV fin.vals i = bV yI i := fun i o e ho hk => RU.vals i fun k ok hok hna => by
   rw [Nat.zero_add]
   intro e'
   subst e'
   rw [get.1 ho] at hok
   cases hok
   exact hna e hk
  rw [hv i o e ho hk, hv i' o' e' ho' hk']
  rcases Nat.lt_or_gt_of_ne hne with hlt | hlt
  ·have := LB.dif i o e i' o' e' (get.1 ho) hk (get.1 ho') hk' hlt
   rw [Nat.zero_add, Nat.zero_add] at this
   omega
  ·have := LB.dif i' o' e' i o e (get.1 ho') hk' (get.1 ho) hk hlt
   rw [Nat.zero_add, Nat.zero_add] at this
   omega
 have WM : ∀ (L : Nat → Bool), (∀ i, i < ops.size → L i = true) → ∀ t, gL ops (bV fin.vals) (bV ts) L t = bV ts' t := fun L hall t => by
  obtain ⟨f1, f2⟩ := PN hts t
  by_cases hex : ∃ (k : Nat) (o : Oper), ops[k]? = some o ∧ o.dst = some t
  ·obtain ⟨k, o, h1, h2⟩ := hex
   rw [Bv hx h1 (hall k (Array.getElem?_eq_some_iff.1 h1).1) h2]
   have := f1 k o (get.1 h1) h2 fun k' o' hk' hd' => hx.dst k' o' k o t (get.2 hk') h1 hd' h2
   rw [this, Nat.zero_add]
  ·rw [Bw fun k o hk _ hd => hex ⟨k, o, hk, hd⟩, f2 fun k o hk hd => hex ⟨k, o, get.2 hk, hd⟩]
 have WO : ∀ j st, fin.S j = some st → s.next ≤ st.next := fun j st hS => Nat.le_trans LB.le (F3 j st hS)
 have WQ : ∀ {L : Array Bool}, L.size = ops.size → ∀ i, i < ops.size → (gG L i = true ∨ gG L i = false) := fun {L} _ i _ => by cases gG L i <;> simp
 have hend : ∀ (L : Array Bool) (a : Act) (w : World) (j : Nat) (D : Nat → Prop) (σ : Nat → Loc), Dn T ops n ts ds fin s.next D0 σ0 w0 L a w j D σ → j ≤ fin.chain.length → (∀ i, i < ops.size → gG L i = true) →
  Post T.gl s.next D0 σ0 w0 n [⟨.normal, ts', ds, sN⟩] .normal a w := by
  intro L a w j D σ I hj hall
  have hjn : j = fin.chain.length := by
   rcases Nat.lt_or_ge j fin.chain.length with hlt | hge
   ·obtain ⟨c, hC⟩ := P5 j hlt
    obtain ⟨o, ho, _⟩ := PZ j c hC
    have := (I.chain j c hC).1 (hall c (Array.getElem?_eq_some_iff.1 ho).1)
    omega
   ·omega
  subst hjn
  have hf := WM (gG L) hall
  refine ⟨_, .head _, D, σ, rfl, ?_, (I.hr sN P6).1, I.ext, fun t v hv => ?_, tY I.ext.sub hd, (I.hr sN P6).2⟩
  ·rw [I.act]
   unfold acts gB ji
   simp only [hf]
  ·have h1 := I.cl t
   rw [hf t] at h1
   have h2 : bV ts' t = v := by unfold bV; rw [hv]; rfl
   rwa [h2] at h1
 have WR : ∀ (L : Array Bool), L.size = ops.size → Region.ready .any ops L = [] → ∀ i, i < ops.size → gG L i = true := by
  intro L hs hr i
  induction i using Nat.strongRecOn with
  | _ i ih =>
   intro hi
   rcases WQ hs i hi with h1 | h1
   ·exact h1
   ·have ho : ops[i]? = some ops[i] := Array.getElem?_eq_getElem hi
    have : i ∈ Region.ready .any ops L := (JJ hs).2 ⟨ops[i], ho, h1, fun p hp => ih p (hx.small i _ ho p hp) (by have := hx.small i _ ho p hp; omega)⟩
    rw [hr] at this
    cases this
 have WS : ∀ (L : Array Bool), L.size = ops.size → oN L.toList = 0 → ∀ i, i < ops.size → gG L i = true := fun L hs hu i hi => by
  have h1 : L[i]? = some L[i] := Array.getElem?_eq_getElem (by omega)
  have := PS hu i L[i] (by rw [Array.getElem?_toList]; exact h1)
  unfold gG
  rw [h1, this]; rfl
 refine wpIn_region_any hT.mixed ?_
 have main : ∀ (fuel : Nat) (L : Array Bool) (a : Act) (w : World) (j : Nat) (D : Nat → Prop) (σ : Nat → Loc), Dn T ops n ts ds fin s.next D0 σ0 w0 L a w j D σ → j ≤ fin.chain.length → oN L.toList ≤ fuel →
  wpAnyIn (Fw (jD σ0 ro)) 0 P .any ops (Post T.gl s.next D0 σ0 w0 n [⟨.normal, ts', ds, sN⟩]) fuel L a w := by
  intro fuel
  induction fuel with
  | zero =>
   intro L a w j D σ I hj hu
   have hall := WS L I.size (by omega)
   refine ⟨?_, hend L a w j D σ I hj hall⟩
   cases hr : Region.ready .any ops L with
   | nil => rfl
   | cons i r =>
    have hi : i ∈ Region.ready .any ops L := by rw [hr]; exact .head _
    obtain ⟨o, ho, kG, _⟩ := (JJ I.size).1 hi
    rw [hall i (Array.getElem?_eq_some_iff.1 ho).1] at kG
    cases kG
  | succ fuel ih =>
   intro L a w j D σ I hj hu
   refine ⟨fun hr => hend L a w j D σ I hj (WR L I.size hr), fun i hi => ?_⟩
   obtain ⟨o, ho, kG, hpre⟩ := (JJ I.size).1 hi
   have hisz : i < ops.size := (Array.getElem?_eq_some_iff.1 ho).1
   have WT : L.toList[i]? = some false := by
    rw [Array.getElem?_toList, Array.getElem?_eq_getElem (by rw [I.size]; exact hisz)]
    unfold gG at kG
    rw [Array.getElem?_eq_getElem (by rw [I.size]; exact hisz)] at kG
    cases hb : L[i]'(by rw [I.size]; exact hisz) with
    | true => rw [hb] at kG; cases kG
    | false => rfl
   have hu' : oN (L.setIfInBounds i true).toList ≤ fuel := by
    have := PO WT
    rw [Array.toList_setIfInBounds]
    omega
   obtain ⟨Bz, hSj⟩ := WK j hj
   obtain ⟨Hj, F4⟩ := I.hr Bz hSj
   have hnews : ∀ {N' : Nat} {D' : Nat → Prop} {σ' : Nat → Loc} {w' : World}, s0.next ≤ N' → Ext N' D σ w D' σ' w' →
    ∀ (k : Nat) (ok : Oper) (e : Nat), ops[k]? = some ok → kindOf ok = .alloc e → gG L k = false → ¬ D' (nameOf (bV fin.vals k)) := by
    intro N' D' σ' w' hN' hE' k ok e hok hke hLk hD'
    obtain ⟨m, z, h1, h2, h3⟩ := JK k ok e hok hke
    have h4 := I.new k ok e hok hke hLk
    rw [h1.1] at h4 hD'
    simp only [nameOf] at h4 hD'
    rcases hE'.news m hD' with h5 | h5
    ·exact h4 h5
    ·omega
   have hpos : yF ops i o j fin.chain.reverse 0 = true := by
    refine PK (fun k c hC hm => ?_) (fun k c oc hC hoc hm => ?_)
    ·rw [Nat.zero_add]
     exact (I.chain k c hC).1 (hpre c hm)
    ·rw [Nat.zero_add]
     rcases Nat.lt_or_ge k j with hlt | hge
     ·have h1 := (I.chain k c hC).2 hlt
      have h2 := I.down c oc hoc h1 i hm
      rw [kG] at h2; cases h2
     ·exact hge
   have JL : kindOf o ≠ .effect → ∀ k, fin.C k ≠ some i := fun hk k hC => by
    obtain ⟨o', ho', hk'⟩ := PZ k i hC
    rw [ho] at ho'; cases ho'
    exact hk hk'
   unfold wpOpIn
   simp only [ho]
   cases hk : kindOf o with
   | alloc e =>
    obtain ⟨hop, hg⟩ := WG hk
    have hw : Region.wanted o (yielded ops a.tmps) = true := by unfold Region.wanted; rw [hg]
    rw [if_pos hw]
    obtain ⟨m, z, hz, hm1, hm2⟩ := JK i o e ho hk
    obtain ⟨hv, ti, td, zv, ht, hzz, hof⟩ := hz
    have hc1 := PY i o ho
    have hzv : zeroV T e = some z := by unfold zeroV; rw [ht]; simp only [hzz]; exact hof
    unfold sG at hc1
    rw [hk] at hc1
    simp only [hzv] at hc1
    have hc2 := JG hc1 j Bz hSj (by rw [Nat.zero_add]; exact hpos)
    rw [hv] at hc2
    simp only [nameOf] at hc2
    split at hc2
    case h_2 => cases hc2
    rename_i ob WU
    have WV := Pt hc2
    subst WV
    have hnD : ¬ D m := by
     have := I.new i o e ho hk kG
     rwa [hv] at this
    obtain ⟨eq1, cz⟩ := AX hof σ D
    have hcz : zv.cells = (bD σ (cellsOf z)).toArray := by rw [← eq1, xS]
    have hclz : cls D (cellsOf z) := vW cz
    have hag : ∀ x, D x → upd σ m ⟨w.heap.size, 0, 0⟩ x = σ x := fun x hx => tO σ m _ (fun (e : x = m) => hnD (by rw [← e]; exact hx))
    have ahb : bD (upd σ m ⟨w.heap.size, 0, 0⟩) (cellsOf z) = bD σ (cellsOf z) := r_ hag _ hclz
    obtain ⟨H2, E2⟩ := Hj.Oi (k := m) hnD (by have := F3 j Bz hSj; omega) (w' := { w with heap := w.heap.push (.cells (bD σ (cellsOf z)).toArray e) }) (by show _ < (w.heap.push _).size; simp)
     (fun b hb => by show (w.heap.push _)[b]? = _; rw [Array.getElem?_push, if_neg (by omega)]) rfl rfl rfl ⟨w.heap.size, 0, 0⟩ (Nat.le_refl _) (by show _ < (w.heap.push _).size; simp)
     (fun x hx => by
      rw [WU] at hx; cases hx
      refine ⟨(bD σ (cellsOf z)).toArray, e, (0, 0), by rw [upd_same]; show (w.heap.push _)[w.heap.size]? = _; simp, by rw [upd_same]; simp [jO], fun i' v' hi' => ?_, oI (fun _ h => .inl h) _ hclz, fun _ => by rw [upd_same], fun _ o' _ _ => by simp⟩
      rw [upd_same]
      have hcv : v'.cl D := AV.tN hclz hi'
      rw [jP hag v' hcv]
      simpa using IC σ _ _ _ hi') (N := s.next) hm1
    have hrun : (o.semAt (Fw (jD σ0 ro)).round a.eval).run P w = .ok (.value (aT (upd σ m ⟨w.heap.size, 0, 0⟩) (bV fin.vals i))) { w with heap := w.heap.push (.cells (bD σ (cellsOf z)).toArray e) } := by
     rw [Oper.semAt_eq _ _ _ (fun c h => by rw [hop] at h; cases h)]
     rw [hv]
     simp only [execOp, hop, Instr.alloc, newVar, hcz, Sem.run_bind, AY hT ht hzz, Result.andThen_ok, newRow]
     simp [upd_same, aT]
    refine ⟨fun _ _ => trivial, ?_⟩
    rw [hrun]
    show wpAnyIn _ _ _ _ _ _ _ _ _ _
    refine ih _ _ _ j _ _ (I.more hx hd ho kG hpre (.inl ⟨rfl, JL (by rw [hk]; simp)⟩) E2 (Nat.le_refl _) (fun st hS => ?_) ?_ ?_) hj hu'
    ·rw [hSj] at hS; cases hS; exact ⟨H2, F4⟩
    ·rw [hv]; exact .inr rfl
    ·intro k ok e' hok hke hLk hki hD'
     rcases hD' with hD' | hD'
     ·exact I.new k ok e' hok hke hLk hD'
     ·have := WL k ok e' i o e hok hke ho hk hki
      rw [hv] at this
      exact this hD'
   | float =>
    have hfa := hfact i o ho
    unfold Fact at hfa
    rw [hk] at hfa
    obtain ⟨env, lX, WW, hrun⟩ := hfa
    have hlk : ∀ t ∈ o.looksAt ops, gL ops (bV fin.vals) (bV ts) (gG L) t = bV env t := fun t ht => looked hx ho lX hpre kG I.down ht
    have hce : fD D env := PU hx lX hpre (pI I.ext.sub hc) I.cl
    have JM : Region.wanted o (yielded ops a.tmps) = jh ops n env o := by rw [I.act]; exact PV hlk σ
    rw [JM]
    cases hwv : jh ops n env o with
    | false =>
     rw [if_neg (by simp)]
     refine ⟨fun _ _ => trivial, ?_⟩
     have hvu := WW hwv
     have := ih _ _ _ j _ _ (I.more hx hd ho kG hpre (.inl ⟨rfl, JL (by rw [hk]; simp)⟩) (Ext.refl s.next D σ w) (Nat.le_refl _) I.hr (by rw [hvu]; simp [AV.cl, cls]) (fun k ok e hok hke hLk _ => I.new k ok e hok hke hLk)) hj hu'
     rw [hvu] at this
     exact this
    | true =>
     rw [if_pos rfl]
     have hval : kF E T n env Bz o = some (bV fin.vals i, Bz) := by
      cases P7 : isPure o.op with
      | true =>
       obtain ⟨st0, st1, h0⟩ := hrun hwv
       exact Wt P7 h0
      | false =>
       have hc1 := PY i o ho
       unfold sG at hc1
       rw [hk] at hc1
       simp only [P7, lX, hwv] at hc1
       have hc2 := JG hc1 j Bz hSj (by rw [Nat.zero_add]; exact hpos)
       split at hc2
       case h_2 => cases hc2
       rename_i v s2 hval
       have WX := yw hc2
       subst WX
       have hs2 := Wq hk hval
       subst hs2
       exact hval
     refine PG hT hE hval (hx.sel i o ho) (hx.iy i o ho) Hj hce (a := a) ?_ _ ?_
     ·rw [I.act]; exact PW hlk σ _
     ·intro D' σ' w' H' E' c' n'
      refine ih _ _ _ j _ _ (I.more hx hd ho kG hpre (.inl ⟨rfl, JL (by rw [hk]; simp)⟩) E' F4 (fun st hS => ?_) c' (fun k ok e hok hke hLk _ => hnews (F3 j _ hSj) E' k ok e hok hke hLk)) hj hu'
      rw [hSj] at hS; cases hS; exact ⟨H', F4⟩
   | effect =>
    have hfa := hfact i o ho
    unfold Fact at hfa
    rw [hk] at hfa
    obtain ⟨env, lX, hcase⟩ := hfa
    have hlk : ∀ t ∈ o.looksAt ops, gL ops (bV fin.vals) (bV ts) (gG L) t = bV env t := fun t ht => looked hx ho lX hpre kG I.down ht
    have hce : fD D env := PU hx lX hpre (pI I.ext.sub hc) I.cl
    have JM : Region.wanted o (yielded ops a.tmps) = jh ops n env o := by rw [I.act]; exact PV hlk σ
    rw [JM]
    rcases hcase with ⟨hwv, hvu, WY⟩ | ⟨hwv, k, st, st', Dp, P8, P9, hval, Dm⟩
    ·rw [hwv, if_neg (by simp)]
     refine ⟨fun _ _ => trivial, ?_⟩
     have := ih _ _ _ j _ _ (I.more hx hd ho kG hpre (.inl ⟨rfl, WY⟩) (Ext.refl s.next D σ w) (Nat.le_refl _) I.hr (by rw [hvu]; simp [AV.cl, cls]) (fun k ok e hok hke hLk _ => I.new k ok e hok hke hLk)) hj hu'
     rw [hvu] at this
     exact this
    ·rw [hwv, if_pos rfl]
     have hkj : k = j := by
      have h1 : ¬ k < j := fun hlt => by
       have := (I.chain k i Dp).2 hlt
       rw [kG] at this; cases this
      have h2 : k ≤ j := by
       rcases Nat.eq_zero_or_pos k with h0 | h0
       ·omega
       ·have Iu : k < fin.chain.length := by
         have := (List.getElem?_eq_some_iff.1 Dp).1
         simpa using this
        obtain ⟨c, hC⟩ := P5 (k - 1) (by omega)
        have := (I.chain (k - 1) c hC).1 (PI I.down 5 o hpre (Dm c h0 hC))
        omega
      omega
     subst hkj
     rw [hSj] at P8; cases P8
     refine PG hT hE hval (hx.sel i o ho) (hx.iy i o ho) Hj hce (a := a) ?_ _ ?_
     ·rw [I.act]; exact PW hlk σ _
     ·intro D' σ' w' H' E' c' n'
      have Iu : k < fin.chain.length := by
       have := (List.getElem?_eq_some_iff.1 Dp).1
       simpa using this
      refine ih _ _ _ (k + 1) _ _ (I.more hx hd ho kG hpre (.inr ⟨rfl, Dp, fun k' hC' => WJ k' k i hC' Dp⟩) E' F4 (fun st hS => ?_) c' (fun k2 ok e hok hke hLk _ => hnews (F3 _ _ hSj) E' k2 ok e hok hke hLk)) (by omega) hu'
      rw [P9] at hS; cases hS; exact ⟨H', WO _ _ P9⟩
 refine main ops.size _ _ _ 0 D0 σ0 ?_ (Nat.zero_le _) ?_
 ·have hnone : ∀ i, gG (Array.replicate ops.size false) i = false := fun i => by
   unfold gG
   rw [Array.getElem?_replicate]
   split <;> simp
  have hbase : ∀ t, gL ops (bV fin.vals) (bV ts) (gG (Array.replicate ops.size false)) t = bV ts t := fun t => Bw fun i o _ hL => by rw [hnone] at hL; cases hL
  refine ⟨by simp, fun i o ho hL p hp => ?_, fun k c hC => ?_, fun st hS => ?_, Ext.E9 _ _ _ _, ?_, fun t => ?_, fun i o e ho hk hL hD => ?_⟩
  ·rw [hnone] at hL; cases hL
  ·rw [hnone]; simp
  ·rw [hS0] at hS; cases hS
   exact ⟨LB.hr _ _ _ _ H0.drew, LB.le⟩
  ·unfold acts gB ji
   simp only [hbase]
  ·rw [hbase]; exact xQ hc t
  ·obtain ⟨m, z, h1, h2, h3⟩ := JK i o e ho hk
   have := H0.dom _ hD
   rw [h1.1] at this
   simp only [nameOf] at this
   omega
 ·rw [Array.toList_replicate, WB]; exact Nat.le_refl _
end
end
end Go.Ai
end
section
namespace Go.Ai
noncomputable section
def mW (ts : Tr AV) : Nat → AV :=
 Tr.rec (motive := fun _ => Nat → AV) (fun _ => .tuple []) (fun _ v _ gl gr n =>
  Bool.rec (motive := fun _ => AV) (Bool.rec (motive := fun _ => AV) (gr (Nat.sub (Nat.div n 2) 1)) (gl (Nat.div n 2)) (Nat.beq (Nat.mod n 2) 1)) (Option.rec (motive := fun _ => AV) (.tuple []) (fun v => v) v) (Nat.beq n 0)) ts
theorem wH : ∀ (ts : Tr AV) (t : Nat), mW ts t = bV ts t
 | .leaf, _ => rfl
 | .node l v r, n => by
  unfold bV
  rw [Tr.nV]
  show Bool.rec (motive := fun _ => AV) (Bool.rec (motive := fun _ => AV) (mW r (n / 2 - 1)) (mW l (n / 2)) (Nat.beq (n % 2) 1)) _ (Nat.beq n 0) = _
  rw [lT, lT, wH l, wH r]
  simp only [Nat.beq_eq]
  split
  ·cases v <;> rfl
  ·split <;> rfl
def yJ {α : Type} (l : List α) : Nat → Option α :=
 List.rec (motive := fun _ => Nat → Option α) (fun _ => none) (fun x _ ih n => Nat.rec (motive := fun _ => Option α) (some x) (fun m _ => ih m) n) l
theorem BA {α : Type} : ∀ (l : List α) (n : Nat), yJ l n = l[n]?
 | [], _ => rfl
 | _ :: _, 0 => rfl
 | _ :: l, n + 1 => BA l n
def P_ {α : Type} (l : List α) : Nat → List α :=
 List.rec (motive := fun _ => Nat → List α) (fun _ => []) (fun x r ih n => Nat.rec (motive := fun _ => List α) (x :: r) (fun m _ => ih m) n) l
theorem Qa {α : Type} : ∀ (l : List α) (n : Nat), P_ l n = l.drop n
 | [], n => by cases n <;> rfl
 | _ :: _, 0 => rfl
 | _ :: l, n + 1 => Qa l n
def Qb {α : Type} (l : List α) : Nat → List α :=
 List.rec (motive := fun _ => Nat → List α) (fun _ => []) (fun x _ ih n => Nat.rec (motive := fun _ => List α) [] (fun m _ => x :: ih m) n) l
theorem Qc {α : Type} : ∀ (l : List α) (n : Nat), Qb l n = l.take n
 | [], n => by cases n <;> rfl
 | _ :: _, 0 => rfl
 | x :: l, n + 1 => congrArg (x :: ·) (Qc l n)
def F5 {α : Type} (l : List α) : Nat := List.rec (motive := fun _ => Nat → Nat) (fun n => n) (fun _ _ ih n => ih (Nat.succ n)) l 0
theorem Qd {α : Type} : ∀ (l : List α) (n : Nat), (List.rec (motive := fun _ => Nat → Nat) (fun n => n) (fun _ _ ih n => ih (Nat.succ n)) l n : Nat) = l.length + n
 | [], n => by simp
 | _ :: l, n => by
  show (List.rec (motive := fun _ => Nat → Nat) (fun n => n) (fun _ _ ih n => ih (Nat.succ n)) l (n + 1) : Nat) = _
  rw [Qd l (n + 1)]; simp; omega
theorem JN {α : Type} (l : List α) : F5 l = l.length := Qd l 0
def yK {α : Type} (a b : List α) : List α := List.rec (motive := fun _ => List α) b (fun x _ ih => x :: ih) a
theorem JO {α : Type} : ∀ (a b : List α), yK a b = a ++ b
 | [], _ => rfl
 | x :: a, b => congrArg (x :: ·) (JO a b)
def wI (a : List UInt8) : List UInt8 → Bool :=
 List.rec (motive := fun _ => List UInt8 → Bool) (fun b => List.rec (motive := fun _ => Bool) true (fun _ _ _ => false) b)
  (fun x _ ih b => List.rec (motive := fun _ => Bool) false (fun y r _ => Bool.rec (motive := fun _ => Bool) false (ih r) (Nat.beq x.toNat y.toNat)) b) a
theorem JQ : ∀ (a b : List UInt8), wI a b = lg a b
 | [], [] => rfl
 | [], _ :: _ => rfl
 | _ :: _, [] => rfl
 | x :: a, y :: b => by
  show Bool.rec (motive := fun _ => Bool) false (wI a b) (Nat.beq x.toNat y.toNat) = _
  rw [JQ a b]
  simp only [lg]
  cases Nat.beq x.toNat y.toNat <;> rfl
def JR (c : List AV) : Nat → Bool :=
 List.rec (motive := fun _ => Nat → Bool) (fun k => Nat.rec (motive := fun _ => Bool) true (fun _ _ => false) k) (fun _ _ ih k => Nat.rec (motive := fun _ => Bool) true (fun k _ => ih k) k) c
theorem JU : ∀ (c : List AV) (k : Nat), JR c k = vX c k
 | [], k => by cases k <;> rfl
 | _ :: _, 0 => rfl
 | _ :: c, k + 1 => JU c k
def Qe (vs : List AV) : List AV → List AV :=
 List.rec (motive := fun _ => List AV → List AV) (fun c => c) (fun v _ ih c => List.rec (motive := fun _ => List AV) [] (fun _ c _ => v :: ih c) c) vs
theorem Qf : ∀ (vs c : List AV), Qe vs c = overlay vs c
 | [], _ => rfl
 | _ :: _, [] => rfl
 | v :: vs, _ :: c => congrArg (v :: ·) (Qf vs c)
def Qg (c : List AV) : Nat → List AV → List AV :=
 List.rec (motive := fun _ => Nat → List AV → List AV) (fun _ _ => []) (fun x r ih o vs => Nat.rec (motive := fun _ => List AV) (Qe vs (x :: r)) (fun o _ => x :: ih o vs) o) c
theorem Qh : ∀ (c : List AV) (o : Nat) (vs : List AV), Qg c o vs = CK c o vs
 | [], _, _ => rfl
 | x :: r, 0, vs => Qf vs (x :: r)
 | x :: r, o + 1, vs => congrArg (x :: ·) (Qh r o vs)
def Dq (a b : Int) : Bool :=
 Int.rec (motive := fun _ => Int → Bool) (fun m b => Int.rec (motive := fun _ => Bool) (fun n => Nat.ble (Nat.succ m) n) (fun _ => false) b)
  (fun m b => Int.rec (motive := fun _ => Bool) (fun _ => true) (fun n => Nat.ble (Nat.succ n) m) b) a b
theorem WZ (a b : Int) : Dq a b = decide (a < b) := by
 cases a with
 | ofNat m => cases b with
  | ofNat n => show Nat.ble (m + 1) n = _; rw [Bool.eq_iff_iff]; simp only [Nat.ble_eq, decide_eq_true_eq]; simp only [Int.ofNat_eq_natCast]; omega
  | negSucc n => show false = _; symm; rw [decide_eq_false_iff_not]; simp only [Int.ofNat_eq_natCast]; omega
 | negSucc m => cases b with
  | ofNat n => show true = _; symm; rw [decide_eq_true_eq]; simp only [Int.ofNat_eq_natCast]; omega
  | negSucc n => show Nat.ble (n + 1) m = _; rw [Bool.eq_iff_iff]; simp only [Nat.ble_eq, decide_eq_true_eq]; omega
def wJ (a b : Int) : Bool :=
 Int.rec (motive := fun _ => Int → Bool) (fun m b => Int.rec (motive := fun _ => Bool) (fun n => Nat.beq m n) (fun _ => false) b)
  (fun m b => Int.rec (motive := fun _ => Bool) (fun _ => false) (fun n => Nat.beq m n) b) a b
theorem Dr (a b : Int) : wJ a b = (a == b) := by
 rw [Bool.eq_iff_iff, beq_iff_eq]
 cases a with
 | ofNat m => cases b with
  | ofNat n => show Nat.beq m n = true ↔ _; rw [Nat.beq_eq]; simp only [Int.ofNat_eq_natCast]; omega
  | negSucc n => show false = true ↔ _; simp
 | negSucc m => cases b with
  | ofNat n => show false = true ↔ _; simp
  | negSucc n => show Nat.beq m n = true ↔ _; rw [Nat.beq_eq]; simp
def Qi (a b : Int) : Int :=
 Int.rec (motive := fun _ => Int → Int) (fun m b => Int.rec (motive := fun _ => Int) (fun n => .ofNat (Nat.add m n)) (fun n => Int.add (.ofNat m) (.negSucc n)) b) (fun m b => Int.add (.negSucc m) b) a b
theorem W9 (a b : Int) : Qi a b = a + b := by cases a <;> cases b <;> rfl
def Qj (a b : Int) : Int :=
 Int.rec (motive := fun _ => Int → Int) (fun m b => Int.rec (motive := fun _ => Int) (fun n => Bool.rec (motive := fun _ => Int) (Int.sub (.ofNat m) (.ofNat n)) (.ofNat (Nat.sub m n)) (Nat.ble n m)) (fun n => Int.sub (.ofNat m) (.negSucc n)) b) (fun m b => Int.sub (.negSucc m) b) a b
theorem W_ (a b : Int) : Qj a b = a - b := by
 cases a with
 | ofNat m => cases b with
  | ofNat n =>
   show Bool.rec (motive := fun _ => Int) (Int.sub (.ofNat m) (.ofNat n)) (.ofNat (Nat.sub m n)) (Nat.ble n m) = _
   rw [lT]
   split
   ·rename_i h
    rw [Nat.ble_eq] at h
    simp only [Int.ofNat_eq_natCast]
    show ((m - n : Nat) : Int) = _
    omega
   ·rfl
  | negSucc n => rfl
 | negSucc m => rfl
def JV (k : IntKind) : Nat := IntKind.rec (motive := fun _ => Nat) 128 32768 2147483648 9223372036854775808 128 32768 2147483648 9223372036854775808 k
def JW (k : IntKind) (n : Int) : Int := Int.rec (motive := fun _ => Int) (fun m => Bool.rec (motive := fun _ => Int) (k.wrap (.ofNat m)) (.ofNat m) (Nat.ble (Nat.succ m) (JV k))) (fun m => k.wrap (.negSucc m)) n
theorem Xa (k : IntKind) (n : Int) : JW k n = k.wrap n := by
 cases n with
 | negSucc m => rfl
 | ofNat m =>
  show Bool.rec (motive := fun _ => Int) (k.wrap (.ofNat m)) (.ofNat m) (Nat.ble (m + 1) (JV k)) = _
  rw [lT]
  split
  ·rename_i h
   rw [Nat.ble_eq] at h
   simp only [Int.ofNat_eq_natCast]
   cases k <;> simp only [JV] at h <;> simp [IntKind.wrap, IntKind.bits, IntKind.signed] <;> omega
  ·rfl
def JX (k : IntKind) : Nat := IntKind.rec (motive := fun _ => Nat) 0 1 2 3 4 5 6 7 k
def mG (k j : IntKind) : Bool := Nat.beq (JX k) (JX j)
theorem Dt (k j : IntKind) : mG k j = true ↔ k = j := by cases k <;> cases j <;> simp [mG, JX]
theorem ahc (k : IntKind) : mG k k = true := (Dt k k).2 rfl
def yL (b : Bool) : Bool := Bool.rec (motive := fun _ => Bool) true false b
theorem JY (b : Bool) : yL b = !b := by cases b <;> rfl
def kT (a b : Bool) : Bool := Bool.rec (motive := fun _ => Bool) false b a
theorem uj (a b : Bool) : kT a b = (a && b) := by cases a <;> rfl
def ahd (v : Value) : Option AV := sj v
def Xb (t : Tmp) (n : Nat) (ts : Tr AV) : Option AV := Bool.rec (motive := fun _ => Option AV) none (some (mW ts t)) (Nat.ble (Nat.succ t) n)
def iW (x : Operand) : Nat → Tr AV → Option AV := Operand.rec (motive := fun _ => Nat → Tr AV → Option AV) Xb (fun v _ _ => sj v) (fun g _ _ => some (.iw g 0)) (fun f _ _ => some (.kQ f [] [])) x
theorem lC (x : Operand) (n : Nat) (ts : Tr AV) : iW x n ts = dz n ts x := by
 cases x with
 | tmp t =>
  show Bool.rec (motive := fun _ => Option AV) none (some (mW ts t)) (Nat.blt t n) = _
  simp only [dz, wH]
  cases Nat.blt t n <;> rfl
 | const v => rfl
 | global g => rfl
 | func f => rfl
theorem ahe {α β : Type} (f : α → Option β) (x : Option α) : Option.rec (motive := fun _ => Option β) none f x = match x with | some v => f v | none => none := by cases x <;> rfl
def JZ (xs : List Operand) : Nat → Tr AV → Option (List AV) :=
 List.rec (motive := fun _ => Nat → Tr AV → Option (List AV)) (fun _ _ => some []) (fun x _ ih n ts => Option.rec (motive := fun _ => Option (List AV)) none (fun v => Option.rec (motive := fun _ => Option (List AV)) none (fun vs => some (v :: vs)) (ih n ts)) (iW x n ts)) xs
theorem Qk : ∀ (xs : List Operand) (n : Nat) (ts : Tr AV), JZ xs n ts = pO n ts xs
 | [], _, _ => rfl
 | x :: xs, n, ts => by
  show Option.rec (motive := fun _ => Option (List AV)) none (fun v => Option.rec (motive := fun _ => Option (List AV)) none (fun vs => some (v :: vs)) (JZ xs n ts)) (iW x n ts) = _
  rw [Qk xs n ts, lC]
  simp only [pO]
  cases dz n ts x with
  | none => rfl
  | some v => cases pO n ts xs <;> rfl
def lY (r : Option AV) (s : St) : Option dA := Option.rec (motive := fun _ => Option dA) none (fun v => some (.vals [(v, s)])) r
theorem nZ (r : Option AV) (s : St) : lY r s = one r s := by cases r <;> rfl
def sH (op : BinOp) (k : IntKind) (a : Int) (j : IntKind) (b : Int) : Option AV :=
 match op with
  | .shl => if 0 ≤ b then some (.int k (k.wrap (a * 2 ^ (min b.toNat k.bits)))) else none
  | .shr => if 0 ≤ b then some (.int k (a.fdiv (2 ^ (min b.toNat k.bits)))) else none
  | op => if k = j then nW op k a b else none
def fint (op : BinOp) : IntKind → Int → IntKind → Int → Option AV := BinOp.rec (motive := fun _ => IntKind → Int → IntKind → Int → Option AV)
 (fun k a j b => (Bool.rec (motive := fun _ => Option AV) none (some (.int k (JW k (Qi a b)))) (mG k j)))
 (fun k a j b => (Bool.rec (motive := fun _ => Option AV) none (some (.int k (JW k (Qj a b)))) (mG k j)))
 (fun k a j b => sH .mul k a j b)
 (fun k a j b => sH .quo k a j b)
 (fun k a j b => sH .rem k a j b)
 (fun k a j b => sH .and k a j b)
 (fun k a j b => sH .or k a j b)
 (fun k a j b => sH .xor k a j b)
 (fun k a j b => sH .shl k a j b)
 (fun k a j b => sH .shr k a j b)
 (fun k a j b => sH .andNot k a j b)
 (fun k a j b => (Bool.rec (motive := fun _ => Option AV) none (some (.bool (wJ a b))) (mG k j)))
 (fun k a j b => (Bool.rec (motive := fun _ => Option AV) none (some (.bool (yL (wJ a b)))) (mG k j)))
 (fun k a j b => (Bool.rec (motive := fun _ => Option AV) none (some (.bool (Dq a b))) (mG k j)))
 (fun k a j b => (Bool.rec (motive := fun _ => Option AV) none (some (.bool (yL (Dq b a)))) (mG k j)))
 (fun k a j b => (Bool.rec (motive := fun _ => Option AV) none (some (.bool (Dq b a))) (mG k j)))
 (fun k a j b => (Bool.rec (motive := fun _ => Option AV) none (some (.bool (yL (Dq a b)))) (mG k j))) op
theorem Xc (op : BinOp) (k : IntKind) (a : Int) (j : IntKind) (b : Int) : fint op k a j b = sH op k a j b := by
 have key : ∀ (x : Option AV) (y : Option AV), (k = j → x = y) → Bool.rec (motive := fun _ => Option AV) none x (mG k j) = if k = j then y else none := fun x y h => by
  rw [lT]
  by_cases hk : k = j
  ·rw [if_pos ((Dt k j).2 hk), if_pos hk, h hk]
  ·rw [if_neg (fun e => hk ((Dt k j).1 e)), if_neg hk]
 cases op <;> first | rfl | (refine key _ _ fun _ => ?_; simp only [nW, Fg, W9, W_, Xa, Dr, WZ, JY, Option.map])
 ·rfl
 ·congr 2; by_cases h : a ≤ b
  ·simp [h, Int.not_lt.2 h]
  ·simp [h, Int.not_le.1 h]
 ·congr 2; by_cases h : a ≥ b
  ·have : ¬ a < b := by omega
   simp [h, this]
  ·have : a < b := by omega
   simp [h, this]
def fstr (op : BinOp) : List UInt8 → List UInt8 → Option AV := BinOp.rec (motive := fun _ => List UInt8 → List UInt8 → Option AV)
 (fun a b => jQ .add a b) (fun a b => jQ .sub a b) (fun a b => jQ .mul a b) (fun a b => jQ .quo a b) (fun a b => jQ .rem a b) (fun a b => jQ .and a b) (fun a b => jQ .or a b) (fun a b => jQ .xor a b) (fun a b => jQ .shl a b) (fun a b => jQ .shr a b) (fun a b => jQ .andNot a b) (fun a b => some (.bool (wI a b))) (fun a b => some (.bool (yL (wI a b)))) (fun a b => jQ .lss a b) (fun a b => jQ .leq a b) (fun a b => jQ .gtr a b) (fun a b => jQ .geq a b) op
theorem Xd (op : BinOp) (a b : List UInt8) : fstr op a b = jQ op a b := by
 cases op <;> first | rfl | (show some (AV.bool _) = some (AV.bool _); simp only [JQ, JY])
def Xe (k : IntKind) (a : Int) : aX → BinOp → Nat → Operand → Operand → AV → AV → Option AV := fun T op t xo yo x y => (AV.rec (motive_1 := fun _ => Option AV) (motive_2 := fun _ => PUnit) (fun _ => dP T op t xo yo x y) (fun j b => fint op k a j b) (fun _ => dP T op t xo yo x y) (dP T op t xo yo x y) (fun _ _ => dP T op t xo yo x y) (fun _ _ => dP T op t xo yo x y) (dP T op t xo yo x y) (fun _ _ _ _ _ => dP T op t xo yo x y) (fun _ _ _ _ => dP T op t xo yo x y) (dP T op t xo yo x y) (fun _ => dP T op t xo yo x y) (fun _ _ _ _ _ => dP T op t xo yo x y) (dP T op t xo yo x y) (fun _ _ _ => dP T op t xo yo x y) (dP T op t xo yo x y) (fun _ _ => dP T op t xo yo x y) (fun _ _ => dP T op t xo yo x y) (fun _ => dP T op t xo yo x y) (fun _ => dP T op t xo yo x y) PUnit.unit (fun _ _ _ _ => PUnit.unit) y)
def Xf (a : List UInt8) : aX → BinOp → Nat → Operand → Operand → AV → AV → Option AV := fun T op t xo yo x y => (AV.rec (motive_1 := fun _ => Option AV) (motive_2 := fun _ => PUnit) (fun _ => dP T op t xo yo x y) (fun _ _ => dP T op t xo yo x y) (fun b => fstr op a b) (dP T op t xo yo x y) (fun _ _ => dP T op t xo yo x y) (fun _ _ => dP T op t xo yo x y) (dP T op t xo yo x y) (fun _ _ _ _ _ => dP T op t xo yo x y) (fun _ _ _ _ => dP T op t xo yo x y) (dP T op t xo yo x y) (fun _ => dP T op t xo yo x y) (fun _ _ _ _ _ => dP T op t xo yo x y) (dP T op t xo yo x y) (fun _ _ _ => dP T op t xo yo x y) (dP T op t xo yo x y) (fun _ _ => dP T op t xo yo x y) (fun _ _ => dP T op t xo yo x y) (fun _ => dP T op t xo yo x y) (fun _ => dP T op t xo yo x y) PUnit.unit (fun _ _ _ _ => PUnit.unit) y)
def Ql (T : aX) (op : BinOp) (t : Nat) (xo yo : Operand) (x y : AV) : Option AV := (AV.rec (motive_1 := fun _ => aX → BinOp → Nat → Operand → Operand → AV → AV → Option AV) (motive_2 := fun _ => PUnit) (fun _ => (fun T op t xo yo x y => dP T op t xo yo x y)) Xe Xf ((fun T op t xo yo x y => dP T op t xo yo x y)) (fun _ _ => (fun T op t xo yo x y => dP T op t xo yo x y)) (fun _ _ => (fun T op t xo yo x y => dP T op t xo yo x y)) ((fun T op t xo yo x y => dP T op t xo yo x y)) (fun _ _ _ _ _ => (fun T op t xo yo x y => dP T op t xo yo x y)) (fun _ _ _ _ => (fun T op t xo yo x y => dP T op t xo yo x y)) ((fun T op t xo yo x y => dP T op t xo yo x y)) (fun _ => (fun T op t xo yo x y => dP T op t xo yo x y)) (fun _ _ _ _ _ => (fun T op t xo yo x y => dP T op t xo yo x y)) ((fun T op t xo yo x y => dP T op t xo yo x y)) (fun _ _ _ => (fun T op t xo yo x y => dP T op t xo yo x y)) ((fun T op t xo yo x y => dP T op t xo yo x y)) (fun _ _ => (fun T op t xo yo x y => dP T op t xo yo x y)) (fun _ _ => (fun T op t xo yo x y => dP T op t xo yo x y)) (fun _ => (fun T op t xo yo x y => dP T op t xo yo x y)) (fun _ => (fun T op t xo yo x y => dP T op t xo yo x y)) PUnit.unit (fun _ _ _ _ => PUnit.unit) x) T op t xo yo x y
theorem Xg (T : aX) (op : BinOp) (t : Nat) (xo yo : Operand) (x y : AV) : Ql T op t xo yo x y = dP T op t xo yo x y := by
 cases x <;> first | rfl | skip
 case int k a => cases y <;> first | rfl | (exact Xc op k a _ _)
 case str a => cases y <;> first | rfl | (exact Xd op a _)
def J2 (d : TypeDesc) : Bool := (TypeDesc.rec (motive := fun _ => Bool) (false) (false) (fun _ => false) (fun _ => false) (fun _ => false) (false) (false) (fun _ => false) (fun _ => false) (fun _ _ => true) (fun _ _ => false) (fun _ _ => false) (fun _ => true) (fun _ _ _ => false) (fun _ => false) (fun _ => false) (fun _ _ => false) d)
theorem Qm (d : TypeDesc) : J2 d = CG d := by cases d <;> rfl
def F6 (v : AV) : List AV := (AV.rec (motive_1 := fun _ => AV → List AV) (motive_2 := fun _ => PUnit) (fun _ => (fun v => [v])) (fun _ _ => (fun v => [v])) (fun _ => (fun v => [v])) ((fun v => [v])) (fun _ _ => (fun v => [v])) (fun _ _ => (fun v => [v])) ((fun v => [v])) (fun _ _ _ _ _ => (fun v => [v])) (fun _ _ _ _ => (fun v => [v])) ((fun v => [v])) (fun _ => (fun v => [v])) (fun _ _ _ _ _ => (fun v => [v])) ((fun v => [v])) (fun _ _ _ => (fun v => [v])) ((fun v => [v])) (fun cs _ _ => cs) (fun _ _ => (fun v => [v])) (fun _ => (fun v => [v])) (fun _ => (fun v => [v])) PUnit.unit (fun _ _ _ _ => PUnit.unit) v) v
theorem Xh (v : AV) : F6 v = cellsOf v := by cases v <;> rfl
def J3 (v : AV) : Bool := (AV.rec (motive_1 := fun _ => Bool) (motive_2 := fun _ => PUnit) (fun _ => true) (fun _ _ => true) (fun _ => true) (true) (fun _ _ => true) (fun _ _ => true) (true) (fun _ _ _ _ _ => true) (fun _ _ _ _ => true) (true) (fun _ => true) (fun _ _ _ _ _ => true) (true) (fun _ _ _ => true) (true) (fun _ _ => false) (fun _ _ => false) (fun _ => true) (fun _ => true) PUnit.unit (fun _ _ _ _ => PUnit.unit) v)
theorem Xi (v : AV) : J3 v = v.scalar := by cases v <;> rfl
def J4 (l : List AV) : Bool := List.rec (motive := fun _ => Bool) true (fun v _ ih => kT (J3 v) ih) l
theorem Qn : ∀ (l : List AV), J4 l = scalars l
 | [] => rfl
 | v :: l => by show kT (J3 v) (J4 l) = _; rw [Qn l, Xi, uj]; rfl
def J5 (c : List AV) (_ : Nat) (_ _ : Bool) : TypeInfo → TypeDesc → Nat → Option AV := fun i d o => (Bool.rec (motive := fun _ => Option AV) (yJ c o) (Bool.rec (motive := fun _ => Option AV) none (some (.agg (Qb (P_ c o) i.size))) (JR c (Nat.add o i.size))) (J2 d))
def Xj (ob : fB) : TypeInfo → TypeDesc → Nat → Option AV := (fB.rec (motive := fun _ => TypeInfo → TypeDesc → Nat → Option AV) J5 (fun _ _ => (fun _ _ _ => none)) (fun _ _ _ _ => (fun _ _ _ => none)) (fun _ _ _ _ _ _ _ _ => (fun _ _ _ => none)) (fun _ => (fun _ _ _ => none)) ob)
def J6 (n o : Nat) : aX → St → Nat → Option AV := fun T s t => (Option.rec (motive := fun _ => Option (AV)) none (fun p => (Option.rec (motive := fun _ => Option (AV)) none (fun b => Xj b p.1 p.2 o) (s.get n))) (T.ti t))
def J7 (g o : Nat) : aX → St → Nat → Option AV := fun T _ t => (Option.rec (motive := fun _ => Option (AV)) none (fun p => (Option.rec (motive := fun _ => Option (AV)) none (fun c => (Bool.rec (motive := fun _ => Option AV) (yJ c o) none (J2 p.2))) (T.gl g))) (T.ti t))
def F7 (T : aX) (s : St) (t : Nat) (a : AV) : Option AV := (AV.rec (motive_1 := fun _ => aX → St → Nat → Option AV) (motive_2 := fun _ => PUnit) (fun _ => (fun _ _ _ => none)) (fun _ _ => (fun _ _ _ => none)) (fun _ => (fun _ _ _ => none)) ((fun _ _ _ => none)) J6 J7 ((fun _ _ _ => none)) (fun _ _ _ _ _ => (fun _ _ _ => none)) (fun _ _ _ _ => (fun _ _ _ => none)) ((fun _ _ _ => none)) (fun _ => (fun _ _ _ => none)) (fun _ _ _ _ _ => (fun _ _ _ => none)) ((fun _ _ _ => none)) (fun _ _ _ => (fun _ _ _ => none)) ((fun _ _ _ => none)) (fun _ _ => (fun _ _ _ => none)) (fun _ _ => (fun _ _ _ => none)) (fun _ => (fun _ _ _ => none)) (fun _ => (fun _ _ _ => none)) PUnit.unit (fun _ _ _ _ => PUnit.unit) a) T s t
theorem Qo (T : aX) (s : St) (t : Nat) (a : AV) : F7 T s t a = pK T s t a := by
 cases a <;> first | rfl | skip
 case ptr n o =>
  show J6 n o T s t = _
  unfold J6 pK
  cases T.ti t with
  | none => rfl
  | some p =>
   obtain ⟨i, d⟩ := p
   simp only
   cases s.get n with
   | none => rfl
   | some b =>
    cases b with
    | cells c e x f =>
     show J5 c e x f i d o = _
     unfold J5
     rw [lT, lT, Qm, JU, BA, Qc, Qa]
     rfl
    | _ => rfl
 case iw g o =>
  show J7 g o T s t = _
  unfold J7 pK
  cases T.ti t with
  | none => rfl
  | some p =>
   obtain ⟨i, d⟩ := p
   simp only
   cases T.gl g with
   | none => rfl
   | some c =>
    simp only
    rw [lT, Qm, BA]
def J8 (c : List AV) (dY : Nat) (ex fz : Bool) : TypeInfo → Nat → Nat → AV → St → Option St := fun i n o x s => (Bool.rec (motive := fun _ => Option St) (Bool.rec (motive := fun _ => Option St) none (some (s.put n (some (.cells (Qg c o (F6 x)) dY ex false)))) (kT (Nat.beq (F5 (F6 x)) i.size) (kT (J4 (F6 x)) (kT (JR c (Nat.add o i.size)) (Nat.ble (Nat.succ n) 16000000))))) none fz)
def Xk (ob : fB) : TypeInfo → Nat → Nat → AV → St → Option St := (fB.rec (motive := fun _ => TypeInfo → Nat → Nat → AV → St → Option St) J8 (fun _ _ => (fun _ _ _ _ _ => none)) (fun _ _ _ _ => (fun _ _ _ _ _ => none)) (fun _ _ _ _ _ _ _ _ => (fun _ _ _ _ _ => none)) (fun _ => (fun _ _ _ _ _ => none)) ob)
def J9 (n o : Nat) : aX → St → Nat → AV → Option St := fun T s t x => (Option.rec (motive := fun _ => Option (St)) none (fun p => (Option.rec (motive := fun _ => Option (St)) none (fun b => Xk b p.1 n o x s) (s.get n))) (T.ti t))
def Qp (T : aX) (s : St) (t : Nat) (a x : AV) : Option St := (AV.rec (motive_1 := fun _ => aX → St → Nat → AV → Option St) (motive_2 := fun _ => PUnit) (fun _ => (fun _ _ _ _ => none)) (fun _ _ => (fun _ _ _ _ => none)) (fun _ => (fun _ _ _ _ => none)) ((fun _ _ _ _ => none)) J9 (fun _ _ => (fun _ _ _ _ => none)) ((fun _ _ _ _ => none)) (fun _ _ _ _ _ => (fun _ _ _ _ => none)) (fun _ _ _ _ => (fun _ _ _ _ => none)) ((fun _ _ _ _ => none)) (fun _ => (fun _ _ _ _ => none)) (fun _ _ _ _ _ => (fun _ _ _ _ => none)) ((fun _ _ _ _ => none)) (fun _ _ _ => (fun _ _ _ _ => none)) ((fun _ _ _ _ => none)) (fun _ _ => (fun _ _ _ _ => none)) (fun _ _ => (fun _ _ _ _ => none)) (fun _ => (fun _ _ _ _ => none)) (fun _ => (fun _ _ _ _ => none)) PUnit.unit (fun _ _ _ _ => PUnit.unit) a) T s t x
theorem Xl (T : aX) (s : St) (t : Nat) (a x : AV) : Qp T s t a x = A_ T s t a x := by
 cases a <;> first | rfl | skip
 case ptr n o =>
  show J9 n o T s t x = _
  unfold J9 A_
  cases T.ti t with
  | none => rfl
  | some p =>
   obtain ⟨i, d⟩ := p
   simp only
   cases s.get n with
   | none => rfl
   | some b =>
    cases b with
    | cells c e ex f =>
     show J8 c e ex f i n o x s = _
     unfold J8
     cases f with
     | true => rfl
     | false =>
      show Bool.rec (motive := fun _ => Option St) _ _ _ = _
      rw [lT]
      simp only [uj, Qn, Xh, JN, JU, Qh]
      have h1 : Nat.beq (cellsOf x).length i.size = decide ((cellsOf x).length = i.size) := by rw [Bool.eq_iff_iff]; simp
      have h2 : Nat.ble (Nat.succ n) 16000000 = decide (n < 16000000) := by rw [Bool.eq_iff_iff]; simp [Nat.succ_le_iff]
      rw [h1, h2]
      simp only [Bool.and_assoc]
      rfl
    | _ => rfl
def J_ (n o len _ : Nat) (_ : Bool) : aX → Nat → AV → Option AV := fun T t ix => (AV.rec (motive_1 := fun _ => Option AV) (motive_2 := fun _ => PUnit) (fun _ => none) (fun _ i => (Option.rec (motive := fun _ => Option (AV)) none (fun p => (TypeDesc.rec (motive := fun _ => Option AV) (none) (none) (fun _ => none) (fun _ => none) (fun _ => none) (none) (none) (fun _ => none) (fun el => (Option.rec (motive := fun _ => Option (AV)) none (fun q => (Int.rec (motive := fun _ => Option AV) (fun k => (Bool.rec (motive := fun _ => Option AV) none (some (.ptr n (Nat.add o (Nat.mul k q.1.size)))) (Nat.ble (Nat.succ k) len))) (fun _ => none) i)) (T.ti el))) (fun _ _ => none) (fun _ _ => none) (fun _ _ => none) (fun _ => none) (fun _ _ _ => none) (fun _ => none) (fun _ => none) (fun _ _ => none) p.2)) (T.ti t))) (fun _ => none) (none) (fun _ _ => none) (fun _ _ => none) (none) (fun _ _ _ _ _ => none) (fun _ _ _ _ => none) (none) (fun _ => none) (fun _ _ _ _ _ => none) (none) (fun _ _ _ => none) (none) (fun _ _ => none) (fun _ _ => none) (fun _ => none) (fun _ => none) PUnit.unit (fun _ _ _ _ => PUnit.unit) ix)
def Ka (n o : Nat) : aX → Nat → AV → Option AV := fun T t ix => (AV.rec (motive_1 := fun _ => Option AV) (motive_2 := fun _ => PUnit) (fun _ => none) (fun _ i => (Option.rec (motive := fun _ => Option (AV)) none (fun p => (TypeDesc.rec (motive := fun _ => Option AV) (none) (none) (fun _ => none) (fun _ => none) (fun _ => none) (none) (none) (fun _ => none) (fun _ => none) (fun len el => (Option.rec (motive := fun _ => Option (AV)) none (fun q => (Int.rec (motive := fun _ => Option AV) (fun k => (Bool.rec (motive := fun _ => Option AV) none (some (.ptr n (Nat.add o (Nat.mul k q.1.size)))) (Nat.ble (Nat.succ k) len))) (fun _ => none) i)) (T.ti el))) (fun _ _ => none) (fun _ _ => none) (fun _ => none) (fun _ _ _ => none) (fun _ => none) (fun _ => none) (fun _ _ => none) p.2)) (T.ti t))) (fun _ => none) (none) (fun _ _ => none) (fun _ _ => none) (none) (fun _ _ _ _ _ => none) (fun _ _ _ _ => none) (none) (fun _ => none) (fun _ _ _ _ _ => none) (none) (fun _ _ _ => none) (none) (fun _ _ => none) (fun _ _ => none) (fun _ => none) (fun _ => none) PUnit.unit (fun _ _ _ _ => PUnit.unit) ix)
def Ke (g o : Nat) : aX → Nat → AV → Option AV := fun T t ix => (AV.rec (motive_1 := fun _ => Option AV) (motive_2 := fun _ => PUnit) (fun _ => none) (fun _ i => (Option.rec (motive := fun _ => Option (AV)) none (fun p => (TypeDesc.rec (motive := fun _ => Option AV) (none) (none) (fun _ => none) (fun _ => none) (fun _ => none) (none) (none) (fun _ => none) (fun _ => none) (fun len el => (Option.rec (motive := fun _ => Option (AV)) none (fun q => (Int.rec (motive := fun _ => Option AV) (fun k => (Bool.rec (motive := fun _ => Option AV) none (some (.iw g (Nat.add o (Nat.mul k q.1.size)))) (Nat.ble (Nat.succ k) len))) (fun _ => none) i)) (T.ti el))) (fun _ _ => none) (fun _ _ => none) (fun _ => none) (fun _ _ _ => none) (fun _ => none) (fun _ => none) (fun _ _ => none) p.2)) (T.ti t))) (fun _ => none) (none) (fun _ _ => none) (fun _ _ => none) (none) (fun _ _ _ _ _ => none) (fun _ _ _ _ => none) (none) (fun _ => none) (fun _ _ _ _ _ => none) (none) (fun _ _ _ => none) (none) (fun _ _ => none) (fun _ _ => none) (fun _ => none) (fun _ => none) PUnit.unit (fun _ _ _ _ => PUnit.unit) ix)
def Qq (T : aX) (t : Nat) (x ix : AV) : Option AV := (AV.rec (motive_1 := fun _ => aX → Nat → AV → Option AV) (motive_2 := fun _ => PUnit) (fun _ => (fun _ _ _ => none)) (fun _ _ => (fun _ _ _ => none)) (fun _ => (fun _ _ _ => none)) ((fun _ _ _ => none)) Ka Ke ((fun _ _ _ => none)) J_ (fun _ _ _ _ => (fun _ _ _ => none)) ((fun _ _ _ => none)) (fun _ => (fun _ _ _ => none)) (fun _ _ _ _ _ => (fun _ _ _ => none)) ((fun _ _ _ => none)) (fun _ _ _ => (fun _ _ _ => none)) ((fun _ _ _ => none)) (fun _ _ => (fun _ _ _ => none)) (fun _ _ => (fun _ _ _ => none)) (fun _ => (fun _ _ _ => none)) (fun _ => (fun _ _ _ => none)) PUnit.unit (fun _ _ _ _ => PUnit.unit) x) T t ix
theorem Kg {i : Int} {len : Nat} {f : Nat → AV} : (Int.rec (motive := fun _ => Option AV) (fun k => Bool.rec (motive := fun _ => Option AV) none (some (f k)) (Nat.ble (Nat.succ k) len)) (fun _ => none) i : Option AV) = if 0 ≤ i ∧ i < len then some (f i.toNat) else none := by
 cases i with
 | ofNat k =>
  show Bool.rec (motive := fun _ => Option AV) none (some (f k)) (Nat.ble (k + 1) len) = _
  rw [lT]
  simp only [Nat.ble_eq, Int.ofNat_eq_natCast, Int.toNat_natCast]
  by_cases h : k + 1 ≤ len
  ·rw [if_pos h, if_pos ⟨by omega, by omega⟩]
  ·rw [if_neg h, if_neg (by omega)]
 | negSucc k =>
  show none = _
  rw [if_neg (by omega)]
theorem Xm (T : aX) (t : Nat) (x ix : AV) : Qq T t x ix = CP T t x ix := by
 cases x <;> first | rfl | skip
 all_goals
  cases ix <;> first | rfl | skip
  unfold CP
 case slice.int n o len cap full k i =>
  show J_ n o len cap full T t (.int k i) = _
  unfold J_
  simp only
  cases T.ti t with
  | none => rfl
  | some p =>
   obtain ⟨i0, d⟩ := p
   cases d <;> first | rfl | skip
   case slice el =>
    simp only
    cases T.ti el with
    | none => rfl
    | some q => exact Kg (f := fun k => .ptr n (Nat.add o (Nat.mul k q.1.size)))
 case ptr.int n o k i =>
  show Ka n o T t (.int k i) = _
  unfold Ka
  simp only
  cases T.ti t with
  | none => rfl
  | some p =>
   obtain ⟨i0, d⟩ := p
   cases d <;> first | rfl | skip
   case array len el =>
    simp only
    cases T.ti el with
    | none => rfl
    | some q => exact Kg (f := fun k => .ptr n (Nat.add o (Nat.mul k q.1.size)))
 case iw.int n o k i =>
  show Ke n o T t (.int k i) = _
  unfold Ke
  simp only
  cases T.ti t with
  | none => rfl
  | some p =>
   obtain ⟨i0, d⟩ := p
   cases d <;> first | rfl | skip
   case array len el =>
    simp only
    cases T.ti el with
    | none => rfl
    | some q => exact Kg (f := fun k => .iw n (Nat.add o (Nat.mul k q.1.size)))
def Kh (l : List UInt8) : aX → Nat → AV → Option AV := fun T t ix => (AV.rec (motive_1 := fun _ => Option AV) (motive_2 := fun _ => PUnit) (fun _ => none) (fun _ i => (Option.rec (motive := fun _ => Option (AV)) none (fun p => (TypeDesc.rec (motive := fun _ => Option AV) (none) (none) (fun _ => none) (fun _ => none) (fun _ => none) (Int.rec (motive := fun _ => Option AV) (fun k => (Option.rec (motive := fun _ => Option (AV)) none (fun b => some (.int .u8 (.ofNat b.toNat))) (yJ l k))) (fun _ => none) i) (none) (fun _ => none) (fun _ => none) (fun _ _ => none) (fun _ _ => none) (fun _ _ => none) (fun _ => none) (fun _ _ _ => none) (fun _ => none) (fun _ => none) (fun _ _ => none) p.2)) (T.ti t))) (fun _ => none) (none) (fun _ _ => none) (fun _ _ => none) (none) (fun _ _ _ _ _ => none) (fun _ _ _ _ => none) (none) (fun _ => none) (fun _ _ _ _ _ => none) (none) (fun _ _ _ => none) (none) (fun _ _ => none) (fun _ _ => none) (fun _ => none) (fun _ => none) PUnit.unit (fun _ _ _ _ => PUnit.unit) ix)
def Qr (T : aX) (t : Nat) (x ix : AV) : Option AV := (AV.rec (motive_1 := fun _ => aX → Nat → AV → AV → Option AV) (motive_2 := fun _ => PUnit) (fun _ => (fun T t x ix => jq T t x ix)) (fun _ _ => (fun T t x ix => jq T t x ix)) (fun l T t _ ix => Kh l T t ix) ((fun T t x ix => jq T t x ix)) (fun _ _ => (fun T t x ix => jq T t x ix)) (fun _ _ => (fun T t x ix => jq T t x ix)) ((fun T t x ix => jq T t x ix)) (fun _ _ _ _ _ => (fun T t x ix => jq T t x ix)) (fun _ _ _ _ => (fun T t x ix => jq T t x ix)) ((fun T t x ix => jq T t x ix)) (fun _ => (fun T t x ix => jq T t x ix)) (fun _ _ _ _ _ => (fun T t x ix => jq T t x ix)) ((fun T t x ix => jq T t x ix)) (fun _ _ _ => (fun T t x ix => jq T t x ix)) ((fun T t x ix => jq T t x ix)) (fun _ _ => (fun T t x ix => jq T t x ix)) (fun _ _ => (fun T t x ix => jq T t x ix)) (fun _ => (fun T t x ix => jq T t x ix)) (fun _ => (fun T t x ix => jq T t x ix)) PUnit.unit (fun _ _ _ _ => PUnit.unit) x) T t x ix
theorem Xn (T : aX) (t : Nat) (x ix : AV) : Qr T t x ix = jq T t x ix := by
 cases x <;> first | rfl | skip
 case str l =>
  cases ix <;> first | rfl | skip
  case int k i =>
   show Kh l T t (.int k i) = _
   unfold Kh jq
   simp only
   cases T.ti t with
   | none => rfl
   | some p =>
    obtain ⟨i0, d⟩ := p
    cases d <;> first | rfl | skip
    case string =>
     simp only
     cases i with
     | ofNat k =>
      simp only [BA]
      rw [if_pos (by simp only [Int.ofNat_eq_natCast]; omega)]
      show _ = Option.map _ (l[k]?)
      cases l[k]? <;> rfl
     | negSucc k => rfl
def Ki (fs : Array Field) : aX → AV → Nat → Option AV := fun T a f => (Option.rec (motive := fun _ => Option (AV)) none (fun fl => (Option.rec (motive := fun _ => Option (AV)) none (fun q => Nat.rec (motive := fun _ => Option AV) none (fun _ _ => (AV.rec (motive_1 := fun _ => Option AV) (motive_2 := fun _ => PUnit) (fun _ => none) (fun _ _ => none) (fun _ => none) (none) (fun n o => some (.ptr n (Nat.add o fl.offset))) (fun _ _ => none) (none) (fun _ _ _ _ _ => none) (fun _ _ _ _ => none) (none) (fun _ => none) (fun _ _ _ _ _ => none) (none) (fun _ _ _ => none) (none) (fun _ _ => none) (fun _ _ => none) (fun _ => none) (fun _ => none) PUnit.unit (fun _ _ _ _ => PUnit.unit) a)) q.1.size) (T.ti fl.type))) (yJ fs.toList f))
def Xo (d : TypeDesc) : aX → AV → Nat → Option AV := (TypeDesc.rec (motive := fun _ => aX → AV → Nat → Option AV) ((fun _ _ _ => none)) ((fun _ _ _ => none)) (fun _ => (fun _ _ _ => none)) (fun _ => (fun _ _ _ => none)) (fun _ => (fun _ _ _ => none)) ((fun _ _ _ => none)) ((fun _ _ _ => none)) (fun _ => (fun _ _ _ => none)) (fun _ => (fun _ _ _ => none)) (fun _ _ => (fun _ _ _ => none)) (fun _ _ => (fun _ _ _ => none)) (fun _ _ => (fun _ _ _ => none)) Ki (fun _ _ _ => (fun _ _ _ => none)) (fun _ => (fun _ _ _ => none)) (fun _ => (fun _ _ _ => none)) (fun _ _ => (fun _ _ _ => none)) d)
def Kj (T : aX) (t : Nat) (a : AV) (f : Nat) : Option AV := (Option.rec (motive := fun _ => Option (AV)) none (fun p => Xo p.2 T a f) (T.ti t))
theorem Xp (T : aX) (t : Nat) (a : AV) (f : Nat) : Kj T t a f = CO T t a f := by
 unfold Kj CO
 cases T.ti t with
 | none => rfl
 | some p =>
  obtain ⟨i0, d⟩ := p
  cases d <;> first | rfl | skip
  case struct fs =>
   show Ki fs T a f = _
   unfold Ki
   simp only [BA, Array.getElem?_toList]
   cases fs[f]? with
   | none => rfl
   | some fl =>
    simp only
    cases T.ti fl.type with
    | none => rfl
    | some q =>
     obtain ⟨i, d⟩ := q
     simp only
     cases hs : i.size with
     | zero => rfl
     | succ m =>
      rw [if_neg (by omega)]
      cases a <;> rfl
def F8 (l : List UInt8) : aX → St → Nat → Option AV := fun T _ t => (Option.rec (motive := fun _ => Option (AV)) none (fun p => (TypeDesc.rec (motive := fun _ => Option AV) (none) (none) (fun _ => none) (fun _ => none) (fun _ => none) (some (.int .i64 (.ofNat (F5 l)))) (none) (fun _ => none) (fun _ => none) (fun _ _ => none) (fun _ _ => none) (fun _ _ => none) (fun _ => none) (fun _ _ _ => none) (fun _ => none) (fun _ => none) (fun _ _ => none) p.2)) (T.ti t))
def F9 (_ _ len _ : Nat) (_ : Bool) : aX → St → Nat → Option AV := fun T _ t => (Option.rec (motive := fun _ => Option (AV)) none (fun p => (TypeDesc.rec (motive := fun _ => Option AV) (none) (none) (fun _ => none) (fun _ => none) (fun _ => none) (none) (none) (fun _ => none) (fun _ => some (.int .i64 (.ofNat len))) (fun _ _ => none) (fun _ _ => none) (fun _ _ => none) (fun _ => none) (fun _ _ _ => none) (fun _ => none) (fun _ => none) (fun _ _ => none) p.2)) (T.ti t))
def ahf (x : AV) : aX → St → Nat → Option AV := (AV.rec (motive_1 := fun _ => aX → St → Nat → Option AV) (motive_2 := fun _ => PUnit) (fun _ => (fun _ _ _ => none)) (fun _ _ => (fun _ _ _ => none)) F8 ((fun _ _ _ => none)) (fun _ _ => (fun _ _ _ => none)) (fun _ _ => (fun _ _ _ => none)) ((fun _ _ _ => none)) F9 (fun _ _ _ _ => (fun _ _ _ => none)) ((fun _ _ _ => none)) (fun _ => (fun _ _ _ => none)) (fun _ _ _ _ _ => (fun _ _ _ => none)) ((fun _ _ _ => none)) (fun _ _ _ => (fun _ _ _ => none)) ((fun _ _ _ => none)) (fun _ _ => (fun _ _ _ => none)) (fun _ _ => (fun _ _ _ => none)) (fun _ => (fun _ _ _ => none)) (fun _ => (fun _ _ _ => none)) PUnit.unit (fun _ _ _ _ => PUnit.unit) x)
def Kk (T : aX) (s : St) (tys : List Nat) (x : AV) : Option AV := (AV.rec (motive_1 := fun _ => aX → St → List Nat → Option AV) (motive_2 := fun _ => PUnit) (fun _ => (fun T s tys => jr T s tys x)) (fun _ _ => (fun T s tys => jr T s tys x)) (fun l T s tys => List.rec (motive := fun _ => Option AV) none (fun t _ _ => F8 l T s t) tys) ((fun T s tys => jr T s tys x)) (fun _ _ => (fun T s tys => jr T s tys x)) (fun _ _ => (fun T s tys => jr T s tys x)) ((fun T s tys => jr T s tys x)) (fun n o len cap full T s tys => List.rec (motive := fun _ => Option AV) none (fun t _ _ => F9 n o len cap full T s t) tys) (fun _ _ _ _ => (fun T s tys => jr T s tys x)) ((fun T s tys => jr T s tys x)) (fun _ => (fun T s tys => jr T s tys x)) (fun _ _ _ _ _ => (fun T s tys => jr T s tys x)) ((fun T s tys => jr T s tys x)) (fun _ _ _ => (fun T s tys => jr T s tys x)) ((fun T s tys => jr T s tys x)) (fun _ _ => (fun T s tys => jr T s tys x)) (fun _ _ => (fun T s tys => jr T s tys x)) (fun _ => (fun T s tys => jr T s tys x)) (fun _ => (fun T s tys => jr T s tys x)) PUnit.unit (fun _ _ _ _ => PUnit.unit) x) T s tys
theorem Xq (T : aX) (s : St) (tys : List Nat) (x : AV) : Kk T s tys x = jr T s tys x := by
 cases x <;> first | rfl | skip
 case str l =>
  cases tys with
  | nil => rfl
  | cons t r =>
   show F8 l T s t = _
   unfold F8 jr
   simp only
   cases T.ti t with
   | none => rfl
   | some p =>
    obtain ⟨i0, d⟩ := p
    cases d <;> first | rfl | skip
    case string => simp only [JN]; rfl
 case slice n o len cap full =>
  cases tys with
  | nil => rfl
  | cons t r =>
   show F9 n o len cap full T s t = _
   unfold F9 jr
   simp only
   cases T.ti t with
   | none => rfl
   | some p =>
    obtain ⟨i0, d⟩ := p
    cases d <;> first | rfl | skip
def Kl (T : aX) (s : St) (f : AV) (args : List AV) : Option dA := (AV.rec (motive_1 := fun _ => aX → St → List AV → Option dA) (motive_2 := fun _ => PUnit) (fun _ => (fun _ _ _ => none)) (fun _ _ => (fun _ _ _ => none)) (fun _ => (fun _ _ _ => none)) ((fun _ _ _ => none)) (fun _ _ => (fun _ _ _ => none)) (fun _ _ => (fun _ _ _ => none)) ((fun _ _ _ => none)) (fun _ _ _ _ _ => (fun _ _ _ => none)) (fun _ _ _ _ => (fun _ _ _ => none)) ((fun _ _ _ => none)) (fun _ => (fun _ _ _ => none)) (fun f first cap _ _ T s args => Option.rec (motive := fun _ => Option dA) (wz T s (.kQ f first cap) args) (fun _ => some (.enter f (yK (yK first args) cap))) (T.fn f)) ((fun _ _ _ => none)) (fun _ _ _ => (fun _ _ _ => none)) ((fun _ _ _ => none)) (fun _ _ => (fun _ _ _ => none)) (fun _ _ => (fun _ _ _ => none)) (fun _ => (fun _ _ _ => none)) (fun n _ _ args => some (.round n args)) PUnit.unit (fun _ _ _ _ => PUnit.unit) f) T s args
theorem Xr (T : aX) (s : St) (f : AV) (args : List AV) : Kl T s f args = wz T s f args := by
 cases f <;> first | rfl | skip
 case kQ f first cap =>
  show Option.rec (motive := fun _ => Option dA) (wz T s (.kQ f first cap) args) (fun _ => some (.enter f (yK (yK first args) cap))) (T.fn f) = _
  cases h : T.fn f with
  | none => rfl
  | some fn => simp only [wz, h, JO]
def Qs (b : Builtin) : aX → St → List TypeId → List AV → Option dA := Builtin.rec (motive := fun _ => aX → St → List TypeId → List AV → Option dA)
 (fun T s tys args => iC T s .append tys args)
 (fun T s tys args => iC T s .cap tys args)
 (fun T s tys args => iC T s .clear tys args)
 (fun T s tys args => iC T s .close tys args)
 (fun T s tys args => iC T s .complex tys args)
 (fun T s tys args => iC T s .copy tys args)
 (fun T s tys args => iC T s .delete tys args)
 (fun T s tys args => iC T s .imag tys args)
 (fun T s tys args => List.rec (motive := fun _ => Option dA) none (fun x r _ => List.rec (motive := fun _ => Option dA) (lY (Kk T s tys x) s) (fun _ _ _ => none) r) args)
 (fun T s tys args => iC T s .make tys args)
 (fun T s tys args => iC T s .max tys args)
 (fun T s tys args => iC T s .min tys args)
 (fun T s tys args => iC T s .new tys args)
 (fun T s tys args => iC T s .panic tys args)
 (fun T s tys args => iC T s .print tys args)
 (fun T s tys args => iC T s .println tys args)
 (fun T s tys args => iC T s .real tys args)
 (fun T s tys args => iC T s .recover tys args)
 (fun T s tys args => iC T s .unsafeAdd tys args)
 (fun T s tys args => iC T s .unsafeSlice tys args)
 (fun T s tys args => iC T s .unsafeSliceData tys args)
 (fun T s tys args => iC T s .unsafeString tys args)
 (fun T s tys args => iC T s .unsafeStringData tys args)
 (fun T s tys args => iC T s .unsafeSizeof tys args)
 (fun T s tys args => iC T s .unsafeAlignof tys args)
 (fun T s tys args => iC T s .unsafeOffsetof tys args) b
theorem Xt (T : aX) (s : St) (b : Builtin) (tys : List TypeId) (args : List AV) : Qs b T s tys args = iC T s b tys args := by
 cases b <;> first | rfl | skip
 case len =>
  cases args with
  | nil => rfl
  | cons x r =>
   cases r with
   | nil => show lY (Kk T s tys x) s = _; rw [nZ, Xq]; rfl
   | cons y r => rfl
def Xu (c : Callee) : Nat → Tr AV → aX → St → List TypeId → List AV → Option dA := Callee.rec (motive := fun _ => Nat → Tr AV → aX → St → List TypeId → List AV → Option dA) (fun f n ts T s _ args => (Option.rec (motive := fun _ => Option (dA)) none (fun f => Kl T s f args) (iW f n ts))) (fun _ _ _ _ _ _ _ _ => none) (fun b _ _ T s tys args => Qs b T s tys args) c
def Km (T : aX) (n : Nat) (ts : Tr AV) (s : St) (c : Call) : Option dA := (Option.rec (motive := fun _ => Option (dA)) none (fun args => Xu c.callee n ts T s c.argTypes.toList args) (JZ c.args.toList n ts))
theorem Xv (T : aX) (n : Nat) (ts : Tr AV) (s : St) (c : Call) : Km T n ts s c = Bg T n ts s c := by
 unfold Km Bg
 rw [Qk]
 cases pO n ts c.args.toList with
 | none => rfl
 | some args =>
  simp only
  cases hc : c.callee with
  | value f =>
   show Option.rec (motive := fun _ => Option dA) none (fun f => Kl T s f args) (iW f n ts) = match dz n ts f with
    | some f => wz T s f args
    | none => none
   rw [lC]
   cases dz n ts f with
   | none => rfl
   | some v => exact Xr T s v args
  | invoke r m => rfl
  | builtin b => exact Xt T s b _ args
def Kn (x : Operand) : aX → Nat → Tr AV → St → Oper → Option dA := fun T n ts s _ => lY (iW x n ts) s
def Ko (x : Operand) : aX → Nat → Tr AV → St → Oper → Option dA := fun T n ts s _ => lY (iW x n ts) s
def Kq (t : TypeId) (a : Operand) : aX → Nat → Tr AV → St → Oper → Option dA := fun T n ts s _ => (Option.rec (motive := fun _ => Option (dA)) none (fun v => lY (F7 T s t v) s) (iW a n ts))
def Kr (t : TypeId) (a x : Operand) : aX → Nat → Tr AV → St → Oper → Option dA := fun T n ts s _ => (Option.rec (motive := fun _ => Option (dA)) none (fun v => (Option.rec (motive := fun _ => Option (dA)) none (fun u => (Option.rec (motive := fun _ => Option (dA)) none (fun s => some (.skip s)) (Qp T s t v u))) (iW x n ts))) (iW a n ts))
def Kt (op : BinOp) (t : TypeId) (x y : Operand) (_ : TypeId) : aX → Nat → Tr AV → St → Oper → Option dA := fun T n ts s _ => (Option.rec (motive := fun _ => Option (dA)) none (fun v => (Option.rec (motive := fun _ => Option (dA)) none (fun u => lY (Ql T op t x y v u) s) (iW y n ts))) (iW x n ts))
def Ku (op : UnOp) (_ : TypeId) (x : Operand) : aX → Nat → Tr AV → St → Oper → Option dA := fun T n ts s _ => (Option.rec (motive := fun _ => Option (dA)) none (fun v => lY (FC op v) s) (iW x n ts))
def Kv (a b : TypeId) (x : Operand) : aX → Nat → Tr AV → St → Oper → Option dA := fun T n ts s _ => (Option.rec (motive := fun _ => Option (dA)) none (fun v => lY (FD T a b v) s) (iW x n ts))
def Kw (t : TypeId) (x : Operand) (f : Nat) : aX → Nat → Tr AV → St → Oper → Option dA := fun T n ts s _ => (Option.rec (motive := fun _ => Option (dA)) none (fun v => lY (Kj T t v f) s) (iW x n ts))
def Ky (t : TypeId) (x : Operand) (f : Nat) : aX → Nat → Tr AV → St → Oper → Option dA := fun T n ts s _ => (Option.rec (motive := fun _ => Option (dA)) none (fun v => lY (Fq T t v f) s) (iW x n ts))
def Kz (t : TypeId) (x i : Operand) : aX → Nat → Tr AV → St → Oper → Option dA := fun T n ts s _ => (Option.rec (motive := fun _ => Option (dA)) none (fun v => (Option.rec (motive := fun _ => Option (dA)) none (fun u => lY (Qq T t v u) s) (iW i n ts))) (iW x n ts))
def KA (t : TypeId) (x i : Operand) : aX → Nat → Tr AV → St → Oper → Option dA := fun T n ts s _ => (Option.rec (motive := fun _ => Option (dA)) none (fun v => (Option.rec (motive := fun _ => Option (dA)) none (fun u => lY (Qr T t v u) s) (iW i n ts))) (iW x n ts))
def KC (x : Operand) (i : Nat) : aX → Nat → Tr AV → St → Oper → Option dA := fun T n ts s _ => (Option.rec (motive := fun _ => Option (dA)) none (fun v => lY (FE v i) s) (iW x n ts))
def KD (x : Operand) : aX → Nat → Tr AV → St → Oper → Option dA := fun T n ts s _ => (Option.rec (motive := fun _ => Option (dA)) none (fun v => (AV.rec (motive_1 := fun _ => Option dA) (motive_2 := fun _ => PUnit) (fun _ => none) (fun _ _ => none) (fun _ => none) (none) (fun m o => some (.vals [(.ptr m o, s)])) (fun m o => some (.vals [(.iw m o, s)])) (none) (fun _ _ _ _ _ => none) (fun _ _ _ _ => none) (none) (fun _ => none) (fun _ _ _ _ _ => none) (none) (fun _ _ _ => none) (none) (fun _ _ => none) (fun _ _ => none) (fun _ => none) (fun _ => none) PUnit.unit (fun _ _ _ _ => PUnit.unit) v)) (iW x n ts))
def KE (c a b : Operand) : aX → Nat → Tr AV → St → Oper → Option dA := fun T n ts s _ => (Option.rec (motive := fun _ => Option (dA)) none (fun v => (AV.rec (motive_1 := fun _ => Option dA) (motive_2 := fun _ => PUnit) (fun c => (Bool.rec (motive := fun _ => Option dA) (lY (iW b n ts) s) (lY (iW a n ts) s) c)) (fun _ _ => none) (fun _ => none) (none) (fun _ _ => none) (fun _ _ => none) (none) (fun _ _ _ _ _ => none) (fun _ _ _ _ => none) (none) (fun _ => none) (fun _ _ _ _ _ => none) (none) (fun _ _ _ => none) (none) (fun _ _ => none) (fun _ _ => none) (fun _ => none) (fun _ => none) PUnit.unit (fun _ _ _ _ => PUnit.unit) v)) (iW c n ts))
def g_call (c : Call) : aX → Nat → Tr AV → St → Oper → Option dA := fun T n ts s _ => Km T n ts s c
def Xw (op : Op) : aX → Nat → Tr AV → St → Oper → Option dA := Op.rec (motive := fun _ => aX → Nat → Tr AV → St → Oper → Option dA)
 Kn
 Ko
 KE
 (fun _ => (fun T n ts s o => dQ T n ts s o))
 (fun _ _ => (fun T n ts s o => dQ T n ts s o))
 (fun _ _ => (fun T n ts s o => dQ T n ts s o))
 (fun _ _ _ => (fun T n ts s o => dQ T n ts s o))
 (fun _ _ _ _ => (fun T n ts s o => dQ T n ts s o))
 Kq
 Kr
 (fun _ => (fun T n ts s o => dQ T n ts s o))
 (fun _ => (fun T n ts s o => dQ T n ts s o))
 KD
 Kt
 Ku
 Kv
 (fun _ _ => (fun T n ts s o => dQ T n ts s o))
 (fun _ _ => (fun T n ts s o => dQ T n ts s o))
 (fun _ _ _ => (fun T n ts s o => dQ T n ts s o))
 (fun _ _ => (fun T n ts s o => dQ T n ts s o))
 (fun _ _ => (fun T n ts s o => dQ T n ts s o))
 (fun _ _ _ => (fun T n ts s o => dQ T n ts s o))
 (fun _ _ _ _ _ => (fun T n ts s o => dQ T n ts s o))
 Kw
 Ky
 Kz
 KA
 (fun _ _ _ _ => (fun T n ts s o => dQ T n ts s o))
 (fun _ _ _ _ => (fun T n ts s o => dQ T n ts s o))
 (fun _ _ _ => (fun T n ts s o => dQ T n ts s o))
 (fun _ _ _ _ => (fun T n ts s o => dQ T n ts s o))
 (fun _ _ => (fun T n ts s o => dQ T n ts s o))
 (fun _ _ => (fun T n ts s o => dQ T n ts s o))
 (fun _ => (fun T n ts s o => dQ T n ts s o))
 (fun _ _ _ _ => (fun T n ts s o => dQ T n ts s o))
 KC
 g_call
 (fun _ => (fun T n ts s o => dQ T n ts s o))
 (fun _ => (fun T n ts s o => dQ T n ts s o))
 (fun _ => (fun T n ts s o => dQ T n ts s o))
 (fun _ _ => (fun T n ts s o => dQ T n ts s o))
 (fun _ _ _ => (fun T n ts s o => dQ T n ts s o))
 (fun _ _ => (fun T n ts s o => dQ T n ts s o)) op
def Ga (T : aX) (n : Nat) (ts : Tr AV) (s : St) (o : Oper) : Option dA := Xw o.op T n ts s o
theorem Qt (T : aX) (n : Nat) (ts : Tr AV) (s : St) (o : Oper) : Ga T n ts s o = dQ T n ts s o := by
 unfold Ga
 cases hop : o.op <;> first | rfl | skip
 case move x => show Kn x T n ts s o = _; unfold Kn dQ; simp only [hop, nZ, lC]
 case assign x => show Ko x T n ts s o = _; unfold Ko dQ; simp only [hop, nZ, lC]
 case load t a =>
  show Kq t a T n ts s o = _; unfold Kq dQ; simp only [hop, lC]
  cases dz n ts a <;> simp only [nZ, Qo]
 case store t a x =>
  show Kr t a x T n ts s o = _; unfold Kr dQ; simp only [hop, lC]
  cases dz n ts a with
  | none => rfl
  | some v => cases dz n ts x with
   | none => rfl
   | some u => simp only [Xl]; cases A_ T s t v u <;> rfl
 case binOp op t x y y2 =>
  show Kt op t x y y2 T n ts s o = _; unfold Kt dQ; simp only [hop, lC]
  cases dz n ts x with
  | none => rfl
  | some v => cases dz n ts y with
   | none => rfl
   | some u => simp only [nZ, Xg]
 case unOp op t x =>
  show Ku op t x T n ts s o = _; unfold Ku dQ; simp only [hop, lC]
  cases dz n ts x <;> simp only [nZ]
 case convert a b x =>
  show Kv a b x T n ts s o = _; unfold Kv dQ; simp only [hop, lC]
  cases dz n ts x <;> simp only [nZ]
 case fieldAddr t x f =>
  show Kw t x f T n ts s o = _; unfold Kw dQ; simp only [hop, lC]
  cases dz n ts x <;> simp only [nZ, Xp]
 case field t x f =>
  show Ky t x f T n ts s o = _; unfold Ky dQ; simp only [hop, lC]
  cases dz n ts x <;> simp only [nZ]
 case indexAddr t x i =>
  show Kz t x i T n ts s o = _; unfold Kz dQ; simp only [hop, lC]
  cases dz n ts x with
  | none => rfl
  | some v => cases dz n ts i with
   | none => rfl
   | some u => simp only [nZ, Xm]
 case index t x i =>
  show KA t x i T n ts s o = _; unfold KA dQ; simp only [hop, lC]
  cases dz n ts x with
  | none => rfl
  | some v => cases dz n ts i with
   | none => rfl
   | some u => simp only [nZ, Xn]
 case extract x i =>
  show KC x i T n ts s o = _; unfold KC dQ; simp only [hop, lC]
  cases dz n ts x <;> simp only [nZ]
 case nilCheck x =>
  show KD x T n ts s o = _; unfold KD dQ; simp only [hop, lC]
  cases dz n ts x with
  | none => rfl
  | some v => cases v <;> rfl
 case pick c a b =>
  show KE c a b T n ts s o = _; unfold KE dQ; simp only [hop, lC]
  cases dz n ts c with
  | none => rfl
  | some v =>
   cases v <;> first | rfl | skip
   case bool b => cases b <;> simp only [nZ]
 case call c => show g_call c T n ts s o = _; unfold g_call dQ; simp only [hop, Xv]
def mX {β : Type} (n : Nat) (dst : Option Tmp) (v : AV) (ts : Tr AV) (k : Tr AV → Option β) : Option β :=
 Option.rec (motive := fun _ => Option β) (k ts) (fun d => Bool.rec (motive := fun _ => Option β) none (k (Tr.set 12 ts d (some v))) (kT (Nat.ble (Nat.succ d) n) (Nat.ble (Nat.succ d) 4000))) dst
theorem wK {β : Type} (n : Nat) (dst : Option Tmp) (v : AV) (ts : Tr AV) (k : Tr AV → Option β) : mX n dst v ts k = match jX n dst v ts with | some ts' => k ts' | none => none := by
 unfold jX
 cases dst with
 | none => rfl
 | some d =>
  show Bool.rec (motive := fun _ => Option β) none (k (Tr.set 12 ts d (some v))) (kT (Nat.blt d n) (Nat.blt d 4000)) = _
  rw [uj]
  simp only
  cases (Nat.blt d n && Nat.blt d 4000) <;> rfl
def wL {α : Type} (f : α → Option (List Out)) (l : List α) : Option (List Out) :=
 List.rec (motive := fun _ => Option (List Out)) (some []) (fun p r ih => List.rec (motive := fun _ => Option (List Out)) (f p) (fun _ _ _ =>
  Option.rec (motive := fun _ => Option (List Out)) none (fun a => Option.rec (motive := fun _ => Option (List Out)) none (fun b => some (yK a b)) ih) (f p)) r) l
theorem KF {α : Type} (f : α → Option (List Out)) : ∀ (l : List α), wL f l = pR f l
 | [] => rfl
 | [p] => rfl
 | p :: q :: r => by
  show Option.rec (motive := fun _ => Option (List Out)) none (fun a => Option.rec (motive := fun _ => Option (List Out)) none (fun b => some (yK a b)) (wL f (q :: r))) (f p) = _
  rw [KF f (q :: r)]
  simp only [pR]
  cases f p with
  | none => rfl
  | some a =>
   cases pR f (q :: r) with
   | none => rfl
   | some b => simp only [JO]
def BD (ops : Array Oper) (n : Nat) (ts : Tr AV) (o : Oper) : Bool := Option.rec (motive := fun _ => Bool) true (fun _ => jh ops n ts o) o.guard
theorem Gb (ops : Array Oper) (n : Nat) (ts : Tr AV) (o : Oper) : BD ops n ts o = jh ops n ts o := by
 unfold BD
 cases h : o.guard with
 | none => unfold jh; rw [h]
 | some p => rfl
abbrev lD := Tr AV → List dF → St → Option (List Out)
def Xx (E : Ev) (T : aX) (n : Nat) (ro : Option Nat) (ops : Array Oper) (o : Oper) (k : lD) (ts : Tr AV) (ds : List dF) (s : St) : Option (List Out) := yu E T n ro ops o k ts ds s
def Xy (l : List (AV × St)) : Ev → Nat → Option Tmp → Option Nat → lD → Tr AV → List dF → St → Option (List Out) := fun _ n dst _ k ts ds _ => wL (fun p => mX n dst p.1 ts (fun ts => k ts ds p.2)) l
def Xz (s : St) : Ev → Nat → Option Tmp → Option Nat → lD → Tr AV → List dF → St → Option (List Out) := fun _ n dst _ k ts ds _ => mX n dst (.tuple []) ts (fun ts => k ts ds s)
def XA (d : dF) : Ev → Nat → Option Tmp → Option Nat → lD → Tr AV → List dF → St → Option (List Out) := fun _ n dst ro k ts ds s => Option.rec (motive := fun _ => Option (List Out)) (mX n dst (.tuple []) ts (fun ts => k ts (d :: ds) s)) (fun _ => none) ro
def XB (f : FuncId) (args : List AV) : Ev → Nat → Option Tmp → Option Nat → lD → Tr AV → List dF → St → Option (List Out) := fun E n dst _ k ts ds s => (Option.rec (motive := fun _ => Option (List Out)) none (fun p => mX n dst p.1 ts (fun ts => k ts ds p.2)) (E.call f args s))
def XC (m : Nat) (args : List AV) : Ev → Nat → Option Tmp → Option Nat → lD → Tr AV → List dF → St → Option (List Out) := fun E n dst _ k ts ds s => (Option.rec (motive := fun _ => Option (List Out)) none (fun p => mX n dst p.1 ts (fun ts => k ts ds p.2)) (wB E m args s))
def XD (r : dA) : Ev → Nat → Option Tmp → Option Nat → lD → Tr AV → List dF → St → Option (List Out) := dA.rec (motive := fun _ => Ev → Nat → Option Tmp → Option Nat → lD → Tr AV → List dF → St → Option (List Out)) Xy Xz XA XB XC r
def Gc (E : Ev) (T : aX) (n : Nat) (ro : Option Nat) (ops : Array Oper) (o : Oper) (k : lD) (ts : Tr AV) (ds : List dF) (s : St) : Option (List Out) :=
 Bool.rec (motive := fun _ => Option (List Out)) (mX n o.dst (.tuple []) ts (fun ts => k ts ds s))
  (Option.rec (motive := fun _ => Option (List Out)) (Xx E T n ro ops o k ts ds s) (fun r => XD r E n o.dst ro k ts ds s) (Ga T n ts s o)) (BD ops n ts o)
theorem XE (E : Ev) (T : aX) (n : Nat) (ro : Option Nat) (ops : Array Oper) (o : Oper) (k : lD) (ts : Tr AV) (ds : List dF) (s : St) : Gc E T n ro ops o k ts ds s = yu E T n ro ops o k ts ds s := by
 unfold Gc
 rw [Gb, Qt]
 cases hw : jh ops n ts o with
 | false =>
  simp only
  rw [wK]
  unfold yu
  simp only [hw]
  rfl
 | true =>
  simp only
  cases ho : dQ T n ts s o with
  | none => rfl
  | some r =>
   unfold yu
   rw [hw]
   simp only [ho]
   cases r with
   | vals l =>
    show wL (fun p => mX n o.dst p.1 ts (fun ts => k ts ds p.2)) l = _
    rw [KF]
    congr 1
    funext p
    exact wK ..
   | skip s' => exact wK n o.dst (.tuple []) ts (fun ts => k ts ds s')
   | defer d =>
    cases ro with
    | none => exact wK n o.dst (.tuple []) ts (fun ts => k ts (d :: ds) s)
    | some m => rfl
   | enter f args =>
    show Option.rec (motive := fun _ => Option (List Out)) none (fun p => mX n o.dst p.1 ts (fun ts => k ts ds p.2)) (E.call f args s) = _
    dsimp only
    cases E.call f args s with
    | none => rfl
    | some p => obtain ⟨v, s'⟩ := p; exact wK n o.dst v ts (fun ts => k ts ds s')
   | round m args =>
    show Option.rec (motive := fun _ => Option (List Out)) none (fun p => mX n o.dst p.1 ts (fun ts => k ts ds p.2)) (wB E m args s) = _
    dsimp only
    cases wB E m args s with
    | none => rfl
    | some p => obtain ⟨v, s'⟩ := p; exact wK n o.dst v ts (fun ts => k ts ds s')
def Gd (E : Ev) (T : aX) (n : Nat) (ro : Option Nat) (ops : Array Oper) (l : List Oper) : lD :=
 List.rec (motive := fun _ => lD) (fun ts ds s => some [⟨.normal, ts, ds, s⟩]) (fun o _ ih ts ds s => Gc E T n ro ops o ih ts ds s) l
theorem Qu (E : Ev) (T : aX) (n : Nat) (ro : Option Nat) (ops : Array Oper) : ∀ (l : List Oper), Gd E T n ro ops l = C_ E T n ro ops l
 | [] => rfl
 | o :: l => by
  funext ts ds s
  show Gc E T n ro ops o (Gd E T n ro ops l) ts ds s = _
  rw [Qu E T n ro ops l, XE]
  rfl
def fVal (E : Ev) (T : aX) (n : Nat) (ts : Tr AV) (s : St) (o : Oper) : Option (AV × St) :=
 Option.rec (motive := fun _ => Option (AV × St)) none (fun r => dA.rec (motive := fun _ => Ev → St → Option (AV × St))
  (fun l _ _ => List.rec (motive := fun _ => Option (AV × St)) none (fun p r _ => List.rec (motive := fun _ => Option (AV × St)) (some p) (fun _ _ _ => none) r) l)
  (fun s' _ _ => some (.tuple [], s')) (fun _ _ _ => none) (fun f args E s => E.call f args s) (fun m args E s => wB E m args s) r E s) (Ga T n ts s o)
theorem KG (E : Ev) (T : aX) (n : Nat) (ts : Tr AV) (s : St) (o : Oper) : fVal E T n ts s o = kF E T n ts s o := by
 unfold fVal kF
 rw [Qt]
 cases dQ T n ts s o with
 | none => rfl
 | some r =>
  cases r <;> first | rfl | skip
  case vals l =>
   cases l with
   | nil => rfl
   | cons p r => cases r <;> rfl
def Du (ops : Array Oper) (n : Nat) (vals : Tr AV) (l : List Nat) : Tr AV → Option (Tr AV) :=
 List.rec (motive := fun _ => Tr AV → Option (Tr AV)) (fun ts => some ts) (fun p _ ih ts => Option.rec (motive := fun _ => Option (Tr AV)) none (fun o => mX n o.dst (mW vals p) ts ih) (yJ ops.toList p)) l
theorem KH (ops : Array Oper) (n : Nat) (vals : Tr AV) : ∀ (l : List Nat) (ts : Tr AV), Du ops n vals l ts = kS ops n vals l ts
 | [], _ => rfl
 | p :: r, ts => by
  show Option.rec (motive := fun _ => Option (Tr AV)) none (fun o => mX n o.dst (mW vals p) ts (Du ops n vals r)) (yJ ops.toList p) = _
  rw [BA, Array.getElem?_toList]
  simp only [kS]
  cases ops[p]? with
  | none => rfl
  | some o =>
   simp only [wK, wH]
   cases jX n o.dst (bV vals p) ts with
   | none => rfl
   | some ts' => exact KH ops n vals r ts'
def Gf (E : Ev) (T : aX) (n : Nat) (ops : Array Oper) (ts : Tr AV) (l : List Oper) : Nat → Acc → Option Acc :=
 List.rec (motive := fun _ => Nat → Acc → Option Acc) (fun _ a => some a) (fun o _ ih i a => Kind.rec (motive := fun _ => Option Acc)
  (fun _ => ih (Nat.succ i) a)
  (Option.rec (motive := fun _ => Option Acc) none (fun env => Bool.rec (motive := fun _ => Option Acc) (ih (Nat.succ i) { a with vals := Tr.set 12 a.vals i (some (.tuple [])) })
   (List.rec (motive := fun _ => Option Acc) none (fun st _ _ => Option.rec (motive := fun _ => Option Acc) none (fun r => ih (Nat.succ i) { a with vals := Tr.set 12 a.vals i (some r.1) }) (fVal E T n env st o)) a.eY)
   (BD ops n env o)) (Du ops n a.vals (fE o) ts))
  (Option.rec (motive := fun _ => Option Acc) none (fun env => Bool.rec (motive := fun _ => Option Acc) (ih (Nat.succ i) { a with vals := Tr.set 12 a.vals i (some (.tuple [])) })
   (List.rec (motive := fun _ => Option Acc) none (fun st eY _ => Bool.rec (motive := fun _ => Option Acc) none
    (Option.rec (motive := fun _ => Option Acc) none (fun r => ih (Nat.succ i) ⟨Tr.set 12 a.vals i (some r.1), r.2 :: st :: eY, i :: a.chain⟩) (fVal E T n env st o))
    (List.rec (motive := fun _ => Bool) true (fun c _ _ => yC ops c 5 o) a.chain)) a.eY)
   (BD ops n env o)) (Du ops n a.vals (fE o) ts)) (kindOf o)) l
theorem Qv (E : Ev) (T : aX) (n : Nat) (ops : Array Oper) (ts : Tr AV) : ∀ (l : List Oper) (i : Nat) (a : Acc), Gf E T n ops ts l i a = oM E T n ops ts l i a
 | [], _, _ => rfl
 | o :: l, i, a => by
  have ih := Qv E T n ops ts l
  have ih' : Gf E T n ops ts l = oM E T n ops ts l := by funext i a; exact ih i a
  unfold Gf at ih' ⊢
  simp only [oM]
  rw [ih']
  simp only [KH]
  cases kindOf o with
  | alloc e => rfl
  | float =>
   simp only
   cases kS ops n a.vals (fE o) ts with
   | none => rfl
   | some env =>
    simp only [Gb]
    cases jh ops n env o with
    | false => rfl
    | true =>
     simp only
     cases a.eY with
     | nil => rfl
     | cons st eY =>
      simp only [KG]
      cases kF E T n env st o with
      | none => rfl
      | some r => obtain ⟨v, s'⟩ := r; rfl
  | effect =>
   simp only
   cases kS ops n a.vals (fE o) ts with
   | none => rfl
   | some env =>
    simp only [Gb]
    cases jh ops n env o with
    | false => rfl
    | true =>
     simp only
     cases a.eY with
     | nil => rfl
     | cons st eY =>
      simp only [KG]
      cases hch : a.chain with
      | nil =>
       simp only
       cases kF E T n env st o with
       | none => rfl
       | some r => obtain ⟨v, s'⟩ := r; rfl
      | cons c cs =>
       simp only
       cases yC ops c 5 o with
       | false => rfl
       | true =>
        simp only
        cases kF E T n env st o with
        | none => rfl
        | some r => obtain ⟨v, s'⟩ := r; rfl
def KI (pos : Nat → Bool) (test : St → Bool) (l : List St) : Nat → Bool :=
 List.rec (motive := fun _ => Nat → Bool) (fun _ => true) (fun st _ ih j => kT (Bool.rec (motive := fun _ => Bool) (yL (pos j)) true (test st)) (ih (Nat.succ j))) l
theorem Qw (pos : Nat → Bool) (test : St → Bool) : ∀ (l : List St) (j : Nat), KI pos test l j = wG pos test l j
 | [], _ => rfl
 | st :: l, j => by
  show kT (Bool.rec (motive := fun _ => Bool) (yL (pos j)) true (test st)) (KI pos test l (j + 1)) = _
  rw [uj, Qw pos test l (j + 1), JY]
  simp only [wG]
  cases test st <;> rfl
def XF (k : IntKind) (a : Int) (y : AV) : Bool := (AV.rec (motive_1 := fun _ => Bool) (motive_2 := fun _ => PUnit) (fun _ => false) (fun j b => kT (mG k j) (wJ a b)) (fun _ => false) (false) (fun _ _ => false) (fun _ _ => false) (false) (fun _ _ _ _ _ => false) (fun _ _ _ _ => false) (false) (fun _ => false) (fun _ _ _ _ _ => false) (false) (fun _ _ _ => false) (false) (fun _ _ => false) (fun _ _ => false) (fun _ => false) (fun _ => false) PUnit.unit (fun _ _ _ _ => PUnit.unit) y)
def Qx (x y : AV) : Bool := (AV.rec (motive_1 := fun _ => AV → AV → Bool) (motive_2 := fun _ => PUnit) (fun _ => (fun x y => iF x y)) (fun k a _ y => XF k a y) (fun _ => (fun x y => iF x y)) ((fun x y => iF x y)) (fun _ _ => (fun x y => iF x y)) (fun _ _ => (fun x y => iF x y)) ((fun x y => iF x y)) (fun _ _ _ _ _ => (fun x y => iF x y)) (fun _ _ _ _ => (fun x y => iF x y)) ((fun x y => iF x y)) (fun _ => (fun x y => iF x y)) (fun _ _ _ _ _ => (fun x y => iF x y)) ((fun x y => iF x y)) (fun _ _ _ => (fun x y => iF x y)) ((fun x y => iF x y)) (fun _ _ => (fun x y => iF x y)) (fun _ _ => (fun x y => iF x y)) (fun _ => (fun x y => iF x y)) (fun _ => (fun x y => iF x y)) PUnit.unit (fun _ _ _ _ => PUnit.unit) x) x y
theorem XG (x y : AV) : Qx x y = iF x y := by
 cases x <;> first | rfl | skip
 case int k a =>
  cases y <;> first | rfl | skip
  case int j b =>
   show kT (mG k j) (wJ a b) = _
   rw [uj, Dr]
   simp only [iF]
   congr 1
   ·rw [Bool.eq_iff_iff]; simp [Dt]
def Gg (E : Ev) (T : aX) (n : Nat) (ops : Array Oper) (ts : Tr AV) (fin : Acc) (i : Nat) (o : Oper) : Bool :=
 Kind.rec (motive := fun _ => Bool) (fun _ => sG E T n ops ts fin i o)
  (Bool.rec (motive := fun _ => Bool) (Option.rec (motive := fun _ => Bool) false (fun env => Bool.rec (motive := fun _ => Bool) true
   (KI (fun j => yF ops i o j fin.chain.reverse 0) (fun st => Option.rec (motive := fun _ => Bool) false (fun r => Qx r.1 (mW fin.vals i)) (fVal E T n env st o)) fin.eY.reverse 0)
   (BD ops n env o)) (Du ops n fin.vals (fE o) ts)) true (isPure o.op)) true (kindOf o)
theorem XH (E : Ev) (T : aX) (n : Nat) (ops : Array Oper) (ts : Tr AV) (fin : Acc) (i : Nat) (o : Oper) : Gg E T n ops ts fin i o = sG E T n ops ts fin i o := by
 unfold Gg
 cases hk : kindOf o with
 | alloc e => rfl
 | effect => unfold sG; rw [hk]
 | float =>
  unfold sG
  rw [hk]
  simp only
  cases isPure o.op with
  | true => rfl
  | false =>
   simp only [KH]
   cases kS ops n fin.vals (fE o) ts with
   | none => rfl
   | some env =>
    simp only [Gb]
    cases jh ops n env o with
    | false => rfl
    | true =>
     simp only [Qw]
     congr 1
     funext st
     rw [KG]
     cases kF E T n env st o with
     | none => rfl
     | some r => obtain ⟨v, s'⟩ := r; simp only [XG, wH]
def KJ (f : Nat → Oper → Bool) (l : List Oper) : Nat → Bool := List.rec (motive := fun _ => Nat → Bool) (fun _ => true) (fun o _ ih i => kT (f i o) (ih (Nat.succ i))) l
theorem Qy (f : Nat → Oper → Bool) : ∀ (l : List Oper) (i : Nat), KJ f l i = uh f l i
 | [], _ => rfl
 | o :: l, i => by
  show kT (f i o) (KJ f l (i + 1)) = _
  rw [uj, Qy f l (i + 1)]; rfl
def KL (ops : Array Oper) (n : Nat) (vals : Tr AV) (l : List Oper) : Nat → Tr AV → Option (Tr AV) :=
 List.rec (motive := fun _ => Nat → Tr AV → Option (Tr AV)) (fun _ ts => some ts) (fun o _ ih i ts => mX n o.dst (mW vals i) ts (fun ts => ih (Nat.succ i) ts)) l
theorem Qz (ops : Array Oper) (n : Nat) (vals : Tr AV) : ∀ (l : List Oper) (i : Nat) (ts : Tr AV), KL ops n vals l i ts = yG ops n vals l i ts
 | [], _, _ => rfl
 | o :: l, i, ts => by
  show mX n o.dst (mW vals i) ts (fun ts => KL ops n vals l (i + 1) ts) = _
  rw [wK, wH]
  simp only [yG]
  cases jX n o.dst (bV vals i) ts with
  | none => rfl
  | some ts' => exact Qz ops n vals l (i + 1) ts'
def fMono (k : Nat) (l : List St) : Bool := List.rec (motive := fun _ => Bool) true (fun st _ ih => kT (Nat.ble k st.next) ih) l
theorem QA (k : Nat) : ∀ (l : List St), fMono k l = l.all fun st => Nat.ble k st.next
 | [] => rfl
 | st :: l => by
  show kT (Nat.ble k st.next) (fMono k l) = _
  rw [uj, QA k l]; rfl
def QB (ops : Array Oper) : Bool := FW ops && Nat.ble ops.size 4000
def KM : FP := fun E T ops n _ ts ds s =>
 Bool.rec (motive := fun _ => Option (List Out)) none (Option.rec (motive := fun _ => Option (List Out)) none (fun p => Option.rec (motive := fun _ => Option (List Out)) none (fun fin =>
  Bool.rec (motive := fun _ => Option (List Out)) none (List.rec (motive := fun _ => Option (List Out)) none (fun sN _ _ => Option.rec (motive := fun _ => Option (List Out)) none (fun ts' => some [⟨.normal, ts', ds, sN⟩]) (KL ops n fin.vals ops.toList 0 ts)) fin.eY)
   (kT (KJ (Gg E T n ops ts fin) ops.toList 0) (fMono p.1.next fin.eY)))
  (Gf E T n ops ts ops.toList 0 ⟨p.2, [p.1], []⟩)) (yD T ops.toList 0 s .leaf)) (QB ops)
theorem XI : KM = yH := by
 funext E T ops n ro ts ds s
 unfold KM yH QB
 cases (FW ops && Nat.ble ops.size 4000) with
 | false => rfl
 | true =>
  simp only
  cases yD T ops.toList 0 s .leaf with
  | none => rfl
  | some p =>
   obtain ⟨s0, yI⟩ := p
   simp only [Qv]
   cases oM E T n ops ts ops.toList 0 ⟨yI, [s0], []⟩ with
   | none => rfl
   | some fin =>
    have hf : Gg E T n ops ts fin = sG E T n ops ts fin := by funext i o; exact XH E T n ops ts fin i o
    simp only [QA, Qz, uj, Qy, hf]
    cases (uh (sG E T n ops ts fin) ops.toList 0 && fin.eY.all fun st => Nat.ble s0.next st.next) with
    | false => rfl
    | true =>
     simp only
     cases fin.eY with
     | nil => rfl
     | cons sN eY =>
      simp only
      cases yG ops n fin.vals ops.toList 0 ts <;> rfl
def BF (k : lD) (o : Out) : Option (List Out) := Out.rec (motive := fun _ => Option (List Out)) (fun ex ts ds s => xX.rec (motive := fun _ => Option (List Out)) (k ts ds s) (fun id => some [⟨.exit id, ts, ds, s⟩]) (some [⟨.ret, ts, ds, s⟩]) ex) o
theorem XJ (k : lD) (o : Out) : BF k o = onward k o := by
 obtain ⟨ex, ts, ds, s⟩ := o
 cases ex <;> rfl
theorem QC (k : lD) (l : List Out) : wL (BF k) l = pR (onward k) l := by
 rw [KF, show BF k = onward k from funext (XJ k)]
def Gh (E : Ev) (c : Code) (n : Nat) (ro : Option Nat) (m : Nat) : lD :=
 Nat.rec (motive := fun _ => lD) (fun _ _ _ => none) (fun _ ih ts ds s => Option.rec (motive := fun _ => Option (List Out)) none (fun outs => wL (BF ih) outs) (E.code c n ro ts ds s)) m
theorem QD (E : Ev) (c : Code) (n : Nat) (ro : Option Nat) : ∀ m, Gh E c n ro m = yA E c n ro m
 | 0 => rfl
 | m + 1 => by
  funext ts ds s
  show Option.rec (motive := fun _ => Option (List Out)) none (fun outs => wL (BF (Gh E c n ro m)) outs) (E.code c n ro ts ds s) = _
  rw [QD E c n ro m]
  simp only [yA, QC]
  cases E.code c n ro ts ds s <;> rfl
def KN (id : Nat) (o : Out) : Out := Out.rec (motive := fun _ => Out) (fun ex ts ds s => xX.rec (motive := fun _ => Out) ⟨.normal, ts, ds, s⟩ (fun j => Bool.rec (motive := fun _ => Out) ⟨.exit j, ts, ds, s⟩ ⟨.normal, ts, ds, s⟩ (Nat.beq j id)) ⟨.ret, ts, ds, s⟩ ex) o
theorem XK (id : Nat) (o : Out) : KN id o = unblock id o := by
 obtain ⟨ex, ts, ds, s⟩ := o
 cases ex with
 | normal => rfl
 | ret => rfl
 | exit j =>
  show Bool.rec (motive := fun _ => Out) ⟨.exit j, ts, ds, s⟩ ⟨.normal, ts, ds, s⟩ (Nat.beq j id) = _
  simp only [unblock]
  cases Nat.beq j id <;> rfl
def QE (f : Out → Out) (l : List Out) : List Out := List.rec (motive := fun _ => List Out) [] (fun o _ ih => f o :: ih) l
theorem QF (f : Out → Out) : ∀ (l : List Out), QE f l = l.map f
 | [] => rfl
 | o :: l => congrArg (f o :: ·) (QF f l)
def KO (_ : Nat) (ops : Array Oper) (dr : Bool) : Ev → aX → (Array Oper → Nat → Option Nat → Tr AV → List dF → St → Option (List Out)) → Nat → Option Nat → Tr AV → List dF → St → Option (List Out) := fun E T draw n ro ts ds s => (Bool.rec (motive := fun _ => Option (List Out)) (Gd E T n ro ops ops.toList ts ds s) (draw ops n ro ts ds s) dr)
def KP (a b : Code) : Ev → aX → (Array Oper → Nat → Option Nat → Tr AV → List dF → St → Option (List Out)) → Nat → Option Nat → Tr AV → List dF → St → Option (List Out) := fun E T draw n ro ts ds s => (Option.rec (motive := fun _ => Option (List Out)) none (fun outs => wL (BF (E.code b n ro)) outs) (E.code a n ro ts ds s))
def KQ (x : Operand) (a b : Code) : Ev → aX → (Array Oper → Nat → Option Nat → Tr AV → List dF → St → Option (List Out)) → Nat → Option Nat → Tr AV → List dF → St → Option (List Out) := fun E T draw n ro ts ds s => (Option.rec (motive := fun _ => Option (List Out)) none (fun v => (AV.rec (motive_1 := fun _ => Option (List Out)) (motive_2 := fun _ => PUnit) (fun c => (Bool.rec (motive := fun _ => Option (List Out)) (E.code b n ro ts ds s) (E.code a n ro ts ds s) c)) (fun _ _ => none) (fun _ => none) (none) (fun _ _ => none) (fun _ _ => none) (none) (fun _ _ _ _ _ => none) (fun _ _ _ _ => none) (none) (fun _ => none) (fun _ _ _ _ _ => none) (none) (fun _ _ _ => none) (none) (fun _ _ => none) (fun _ _ => none) (fun _ => none) (fun _ => none) PUnit.unit (fun _ _ _ _ => PUnit.unit) v)) (iW x n ts))
def KR (id : Nat) (c : Code) : Ev → aX → (Array Oper → Nat → Option Nat → Tr AV → List dF → St → Option (List Out)) → Nat → Option Nat → Tr AV → List dF → St → Option (List Out) := fun E T draw n ro ts ds s => (Option.rec (motive := fun _ => Option (List Out)) none (fun outs => some (QE (KN id) outs)) (E.code c n ro ts ds s))
def XL (c : Code) : Ev → aX → (Array Oper → Nat → Option Nat → Tr AV → List dF → St → Option (List Out)) → Nat → Option Nat → Tr AV → List dF → St → Option (List Out) := fun E T draw n ro ts ds s => Gh E c n ro 100000 ts ds s
def QG (c : Code) : Ev → aX → (Array Oper → Nat → Option Nat → Tr AV → List dF → St → Option (List Out)) → Nat → Option Nat → Tr AV → List dF → St → Option (List Out) := Code.rec (motive := fun _ => Ev → aX → (Array Oper → Nat → Option Nat → Tr AV → List dF → St → Option (List Out)) → Nat → Option Nat → Tr AV → List dF → St → Option (List Out))
 (fun _ _ _ _ _ ts ds s => some [⟨.normal, ts, ds, s⟩])
 KO
 (fun a b _ _ => KP a b)
 (fun x a b _ _ => KQ x a b)
 (fun id c _ => KR id c)
 (fun c _ => XL c)
 (fun g ps a b _ _ E T draw n ro ts ds s => wD E T draw (.rangeFunc g ps a b) n ro ts ds s)
 (fun id _ _ _ _ _ ts ds s => some [⟨.exit id, ts, ds, s⟩])
 (fun _ _ => (fun _ _ _ _ _ _ _ _ => none))
 (fun _ _ _ _ _ _ ts ds s => some [⟨.normal, ts, ds, s⟩])
 (fun _ => (fun _ _ _ _ _ _ _ _ => none))
 (fun _ _ _ _ _ ts ds s => some [⟨.ret, ts, ds, s⟩])
 (fun _ => (fun _ _ _ _ _ _ _ _ => none)) c
theorem XM (E : Ev) (T : aX) (draw : Array Oper → Nat → Option Nat → Tr AV → List dF → St → Option (List Out)) (c : Code) (n : Nat) (ro : Option Nat) (ts : Tr AV) (ds : List dF) (s : St) :
 QG c E T draw n ro ts ds s = wD E T draw c n ro ts ds s := by
 cases c <;> first | rfl | skip
 case region id ops dr =>
  show KO id ops dr E T draw n ro ts ds s = _
  unfold KO
  cases dr with
  | true => rfl
  | false => show Gd E T n ro ops ops.toList ts ds s = _; rw [Qu]; rfl
 case seq a b =>
  show KP a b E T draw n ro ts ds s = _
  unfold KP
  simp only [wD, QC]
  cases E.code a n ro ts ds s <;> rfl
 case cond x a b =>
  show KQ x a b E T draw n ro ts ds s = _
  unfold KQ
  simp only [wD, lC]
  cases dz n ts x with
  | none => rfl
  | some v =>
   cases v <;> first | rfl | skip
   case bool b => cases b <;> rfl
 case block id c =>
  show KR id c E T draw n ro ts ds s = _
  unfold KR
  simp only [wD]
  cases E.code c n ro ts ds s with
  | none => rfl
  | some outs => simp only [QF]; rw [show KN id = unblock id from funext (XK id)]
 case loop c =>
  show Gh E c n ro 100000 ts ds s = _
  rw [QD]; rfl
def fArgs (l : List AV) : Nat → Tr AV → Tr AV := List.rec (motive := fun _ => Nat → Tr AV → Tr AV) (fun _ t => t) (fun v _ ih i t => ih (Nat.succ i) (Tr.set 12 t i (some v))) l
theorem QH : ∀ (l : List AV) (i : Nat) (t : Tr AV), fArgs l i t = sF i l t
 | [], _, _ => rfl
 | v :: l, i, t => QH l (i + 1) _
def fRes (T : aX) (n : Nat) (ts : Tr AV) (s : St) (l : List ResultVar) : Option (List AV) :=
 List.rec (motive := fun _ => Option (List AV)) (some []) (fun r _ ih => ResultVar.rec (motive := fun _ => Option (List AV))
  (fun t => Bool.rec (motive := fun _ => Option (List AV)) none (Option.rec (motive := fun _ => Option (List AV)) none (fun vs => some (mW ts t :: vs)) ih) (Nat.ble (Nat.succ t) n))
  (fun a t => Bool.rec (motive := fun _ => Option (List AV)) none (Option.rec (motive := fun _ => Option (List AV)) none (fun v => Option.rec (motive := fun _ => Option (List AV)) none (fun vs => some (v :: vs)) ih) (F7 T s t (mW ts a))) (Nat.ble (Nat.succ a) n)) r) l
theorem QI (T : aX) (n : Nat) (ts : Tr AV) (s : St) : ∀ (l : List ResultVar), fRes T n ts s l = lu T n ts s l
 | [] => rfl
 | r :: l => by
  have ih := QI T n ts s l
  cases r with
  | tmp t =>
   show Bool.rec (motive := fun _ => Option (List AV)) none (Option.rec (motive := fun _ => Option (List AV)) none (fun vs => some (mW ts t :: vs)) (fRes T n ts s l)) (Nat.blt t n) = _
   rw [ih, wH]
   simp only [lu]
   cases Nat.blt t n with
   | false => rfl
   | true => cases lu T n ts s l <;> rfl
  | cell a t =>
   show Bool.rec (motive := fun _ => Option (List AV)) none (Option.rec (motive := fun _ => Option (List AV)) none (fun v => Option.rec (motive := fun _ => Option (List AV)) none (fun vs => some (v :: vs)) (fRes T n ts s l)) (F7 T s t (mW ts a))) (Nat.blt a n) = _
   rw [ih, wH, Qo]
   simp only [lu]
   cases Nat.blt a n with
   | false => rfl
   | true =>
    simp only
    cases pK T s t (bV ts a) with
    | none => rfl
    | some v => cases lu T n ts s l <;> rfl
def KS (l : List AV) : AV := List.rec (motive := fun _ => AV) (.tuple []) (fun v r _ => List.rec (motive := fun _ => AV) v (fun u q _ => .tuple (v :: u :: q)) r) l
theorem QJ (l : List AV) : KS l = pack l := by
 cases l with
 | nil => rfl
 | cons v r => cases r <;> rfl
def KT (T : aX) (fn : Func) (o : Out) : Option (AV × St) :=
 List.rec (motive := fun _ => Option (AV × St)) (xX.rec (motive := fun _ => Option (AV × St)) (Option.rec (motive := fun _ => Option (AV × St)) none (fun vs => some (KS vs, o.s)) (fRes T fn.ntmps o.ts o.s fn.results.toList)) (fun _ => none)
  (Option.rec (motive := fun _ => Option (AV × St)) none (fun vs => some (KS vs, o.s)) (fRes T fn.ntmps o.ts o.s fn.results.toList)) o.ex) (fun _ _ _ => ug T fn o) o.ds
theorem XO (T : aX) (fn : Func) (o : Out) : KT T fn o = ug T fn o := by
 obtain ⟨ex, ts, ds, s⟩ := o
 unfold KT
 cases ds with
 | cons d ds => rfl
 | nil =>
  simp only [QI]
  cases ex with
  | exit id => rfl
  | normal =>
   simp only [ug, uf]
   cases lu T fn.ntmps ts s fn.results.toList <;> simp only [QJ]
  | ret =>
   simp only [ug, uf]
   cases lu T fn.ntmps ts s fn.results.toList <;> simp only [QJ]
def QK (T : aX) (fn : Func) (l : List Out) : Option (AV × St) :=
 List.rec (motive := fun _ => Option (AV × St)) none (fun o r _ => List.rec (motive := fun _ => Option (AV × St)) (KT T fn o) (fun o2 q _ => Bp T fn (o :: o2 :: q)) r) l
theorem XP (T : aX) (fn : Func) (l : List Out) : QK T fn l = Bp T fn l := by
 cases l with
 | nil => rfl
 | cons o r => cases r with
  | nil => exact XO T fn o
  | cons o2 q => rfl
def KU (E : Ev) (T : aX) (f : Nat) (args : List AV) (s : St) : Option (AV × St) :=
 Option.rec (motive := fun _ => Option (AV × St)) none (fun fn => Option.rec (motive := fun _ => Option (AV × St)) none (fun c => Bool.rec (motive := fun _ => Option (AV × St)) none
  (Option.rec (motive := fun _ => Option (AV × St)) none (fun outs => QK T fn outs) (E.code c fn.ntmps none (fArgs args 0 .leaf) [] s))
  (kT (Nat.ble (F5 args) fn.ntmps) (Nat.ble (Nat.succ fn.ntmps) 4000))) fn.body) (T.fn f)
theorem XQ (E : Ev) (T : aX) (f : Nat) (args : List AV) (s : St) : KU E T f args s = Dh E T f args s := by
 unfold KU Dh
 cases T.fn f with
 | none => rfl
 | some fn =>
  simp only
  cases fn.body with
  | none => rfl
  | some c =>
   simp only [uj, JN, QH]
   show Bool.rec (motive := fun _ => Option (AV × St)) none _ (Nat.ble args.length fn.ntmps && Nat.blt fn.ntmps 4000) = _
   cases (Nat.ble args.length fn.ntmps && Nat.blt fn.ntmps 4000) with
   | false => rfl
   | true =>
    simp only
    cases E.code c fn.ntmps none (sF 0 args .leaf) [] s with
    | none => rfl
    | some outs => exact XP T fn outs
def KV (sm : pU) (T : aX) (E : Ev) : Ev :=
 { code := fun c n ro ts ds s => QG c E T (KM E T) n ro ts ds s, call := fun f args s => Option.rec (motive := fun _ => Option (AV × St)) (KU E T f args s) (fun v => some (v, s)) (sm f args) }
def wM (sm : pU) (T : aX) (k : Nat) : Ev := Nat.rec (motive := fun _ => Ev) ⟨fun _ _ _ _ _ _ => none, fun _ _ _ => none⟩ (fun _ E => KV sm T E) k
theorem QL (sm : pU) (T : aX) : ∀ k, wM sm T k = ev yH sm T k
 | 0 => rfl
 | k + 1 => by
  show KV sm T (wM sm T k) = FQ yH sm T (ev yH sm T k)
  rw [QL sm T k]
  unfold KV FQ
  simp only [Ev.mk.injEq]
  refine ⟨?_, ?_⟩
  ·funext c n ro ts ds s
   rw [XM, XI]
  ·funext f args s
   cases sm f args with
   | none => exact XQ ..
   | some v => rfl
theorem Dv {P : Program} {T : aX} (hT : dM P T) {sm : pU} (hsm : Br P T sm) (k : Nat) : kE P T (wM sm T k) := by
 rw [QL]
 exact PE hT hsm (fun _ hE => WH hT hE) k
end
end Go.Ai
end
section
namespace Go.Ai
noncomputable section
def KW (rec : Nat → AV → AV → Option Bool) (T : aX) (xs ys : List AV) : List Field → Option Bool
 | [] => some true
 | f :: fs => match f.name == "_" with
  | true => none
  | false => match sw T f.type xs f.offset, sw T f.type ys f.offset with
   | some a, some b => match rec f.type a b with
    | some true => KW rec T xs ys fs
    | some false => some false
    | none => none
   | _, _ => none
def KX (rec : AV → AV → Option Bool) (T : aX) (elem n : Nat) (xs ys : List AV) : List Nat → Option Bool
 | [] => some true
 | i :: r => match sw T elem xs (i * n), sw T elem ys (i * n) with
  | some a, some b => match rec a b with
   | some true => KX rec T elem n xs ys r
   | some false => some false
   | none => none
  | _, _ => none
def BG (P : Program) (T : aX) : Nat → Nat → AV → AV → Option Bool
 | 0, _, _, _ => none
 | d + 1, t, x, y => match T.ti t with
  | some (_, QM) => match QM, x, y with
   | .bool, .bool a, .bool b => some (a == b)
   | .int _, .int k a, .int k' b => match mG k k' with
    | true => some (wJ a b)
    | false => none
   | .string, .str a, .str b => some (lg a b)
   | .struct fs, .agg xs, .agg ys => match P.stoodInHeld t with
    | false => KW (BG P T d) T xs ys fs.toList
    | true => none
   | .array len elem, .agg xs, .agg ys => match T.ti elem with
    | some (ie, _) => KX (BG P T d elem) T elem ie.size xs ys (List.range' 0 len)
    | none => none
   | _, _, _ => none
  | none => none
section
variable {P : Program} {T : aX}
theorem QN (hT : dM P T) : ∀ (d t : Nat) (x y : AV) (r : Bool), BG P T d t x y = some r → ∀ (σ : Nat → Loc) (w : World), (Op.equalIn d t (aT σ x) (aT σ y)).run P w = .ok r w
 | 0, _, _, _, _, h => by cases h
 | d + 1, t, x, y, r, h => by
  intro σ w
  have ih := QN hT d
  simp only [BG] at h
  split at h
  case h_2 => cases h
  rename_i i QM ht
  have hu := (hT.ti _ _ _ ht).2
  split at h
  ·cases h
   simp only [Op.equalIn, Sem.run_bind, run_underlying hu, Result.andThen_ok, aT, Sem.run_pure]
  ·split at h
   case h_2 => cases h
   rename_i hk
   cases h
   rename_i k a k' b _
   have := (Dt k k').1 hk
   subst this
   simp only [Op.equalIn, Sem.run_bind, run_underlying hu, Result.andThen_ok, aT, if_true, Sem.run_pure, Dr]
  ·cases h
   rename_i a b
   simp only [aT]
   rw [run_equalIn_string w d t _ _ hu, ByteArray.toList_eq, ByteArray.toList_eq, Ip]
  ·split at h
   case h_2 => cases h
   rename_i fs xs ys _ hst
   have hf : P.fieldsOf t = fs := by unfold Program.fieldsOf; rw [hu]
   simp only [aT]
   rw [run_equalIn_struct w d t _ _ (by rw [hf]; exact hu) hst, hf]
   generalize fs.toList = l at h
   clear hf hu ht
   induction l with
   | nil => cases h; simp [Op.eqFields]
   | cons f l ihl =>
    simp only [KW] at h
    split at h
    case h_1 => cases h
    rename_i hn
    have hn' : f.name ≠ "_" := by simpa using hn
    split at h
    case h_2 => cases h
    rename_i a b ha hb
    simp only [Op.eqFields, if_pos hn', Sem.run_bind, Ba hT ha, Ba hT hb, Result.andThen_ok]
    split at h
    ·rename_i hr
     rw [ih _ _ _ _ hr]
     simp only [Result.andThen_ok, Bool.not_true, Bool.false_eq_true, if_false]
     exact ihl h
    ·rename_i hr
     cases h
     rw [ih _ _ _ _ hr]
     simp only [Result.andThen_ok, Bool.not_false, if_true, Sem.run_pure]
    ·cases h
  ·split at h
   case h_2 => cases h
   rename_i len elem xs ys _ ie de he
   simp only [aT, Op.equalIn, Sem.run_bind, run_underlying hu, Result.andThen_ok, lU hT he]
   simp only [Std.Legacy.Range.forIn_eq_forIn_range', Std.Legacy.Range.size, Nat.sub_zero, Nat.add_one_sub_one, Nat.div_one]
   generalize List.range' 0 len = l at h
   clear hu ht
   induction l with
   | nil => cases h; simp
   | cons j l ihl =>
    simp only [KX] at h
    split at h
    case h_2 => cases h
    rename_i a b ha hb
    simp only [List.forIn_cons, Sem.run_bind, Ba hT ha, Ba hT hb, Result.andThen_ok]
    split at h
    ·rename_i hr
     rw [ih _ _ _ _ hr]
     simp only [Result.andThen_ok, Bool.not_true, Bool.false_eq_true, if_false, Sem.run_pure]
     exact ihl h
    ·rename_i hr
     cases h
     rw [ih _ _ _ _ hr]
     simp only [Result.andThen_ok, Bool.not_false, if_true, Sem.run_pure]
    ·cases h
  ·cases h
def Dw (gl : Nat → Option (List AV)) (w : World) : Prop :=
 ∀ (g : Nat) (c : List AV), gl g = some c → ∃ C e fz, w.heap[g]? = some (.cells C e fz) ∧ ∀ (i : Nat) (v : AV), c[i]? = some v → C[i]? = some (aT (fun _ => ⟨0, 0, 0⟩) v) ∧ v.cl fun _ => False
theorem HR.empty {gl : Nat → Option (List AV)} {w : World} (h : Dw gl w) (σ : Nat → Loc) : HR gl (fun _ => False) σ ⟨.leaf, 0⟩ w :=
 ⟨fun _ h => h.elim, fun _ _ h => h.elim, fun _ h => h.elim, fun _ h => h.elim, fun g c hg => by
  obtain ⟨C, e, fz, h1, h2⟩ := h g c hg
  refine ⟨⟨C, e, fz, h1, fun i v hi => ?_⟩, fun _ h => h.elim⟩
  obtain ⟨h3, h4⟩ := h2 i v hi
  exact ⟨by rw [h3]; exact congrArg some (jP (D := fun _ => False) (fun _ h => h.elim) v h4), h4⟩⟩
theorem HR.XR {gl : Nat → Option (List AV)} {D : Nat → Prop} {σ : Nat → Loc} {s : St} {w : World} (H : HR gl D σ s w) : Dw gl w := fun g c hg => by
 obtain ⟨⟨C, e, fz, h1, h2⟩, _⟩ := H.iw g c hg
 refine ⟨C, e, fz, h1, fun i v hi => ?_⟩
 obtain ⟨h3, h4⟩ := h2 i v hi
 exact ⟨by rw [h3]; exact congrArg some (jP (D := fun _ => False) (fun _ h => h.elim) v h4), h4⟩
structure Grown (w w' : World) : Prop where
 size : w.heap.size ≤ w'.heap.size
 keep : ∀ b, b < w.heap.size → w'.heap[b]? = w.heap[b]?
 os : w'.os = w.os
 tape : w'.tape = w.tape
 output : w'.output = w.output
theorem Grown.hr {gl : Nat → Option (List AV)} {D : Nat → Prop} {σ : Nat → Loc} {s : St} {w w' : World} (h : Grown w w') (H : HR gl D σ s w) : HR gl D σ s w' := by
 refine ⟨fun n hn o ho => ?_, H.sep, H.dom, fun n hn => Nat.lt_of_lt_of_le (H.blk n hn) h.size, fun g c hg => ?_⟩
 ·exact Ir (fun _ h => h) (fun _ _ => rfl) hn (H.obj n hn o ho) (fun m hm => h.keep _ (H.blk m hm)) (fun _ _ => rfl)
 ·obtain ⟨⟨C, e, fz, h1, h2⟩, h3⟩ := H.iw g c hg
  refine ⟨⟨C, e, fz, ?_, h2⟩, h3⟩
  rw [h.keep g (Array.getElem?_eq_some_iff.1 h1).1]; exact h1
theorem Grown.ext {N : Nat} {D : Nat → Prop} {σ : Nat → Loc} {w w' : World} (h : Grown w w') : Ext N D σ w D σ w' :=
 ⟨fun _ h => h, fun _ _ => rfl, h.size, fun b hb _ => h.keep b hb, fun _ h => .inl h, h.os, h.tape, h.output, fun _ h => .inl h⟩
theorem QO {E : Ev} (hE : kE P T E) {f : Nat} {args : List AV} {v : AV} {s' : St} (h : E.call f args ⟨.leaf, 0⟩ = some (v, s')) (ha : ∀ D, cls D args) {w : World} (hg : Dw T.gl w) (σ : Nat → Loc) :
 Calls P f (bD σ args).toArray w fun e w' => ∃ D' σ', e = .returned (aT σ' v) ∧ HR T.gl D' σ' s' w' ∧ Grown w w' ∧ v.cl D' ∧ ∀ n, D' n → w.heap.size ≤ (σ' n).block := by
 have hc := hE.call f args _ v s' h (fun _ => False) σ w (HR.empty hg σ) (ha _)
 have hc' : Calls P f (bD σ args).toArray w _ := callsIn_wide.1 hc
 refine hc'.mono ?_
 rintro e w' ⟨D', σ', h1, h2, h3, h4, _⟩
 refine ⟨D', σ', h1, h2, ⟨h3.size, fun b hb => h3.keep b hb (fun _ h => h.elim), h3.os, h3.tape, h3.output⟩, h4, fun n hn => ?_⟩
 rcases h3.fresh n hn with h | h | ⟨m, h, _⟩
 ·exact h.elim
 ·exact h
 ·exact h.elim
theorem KY {E : Ev} (hE : kE P T E) {f : Nat} {args : List AV} {v : AV} {s' : St} (h : E.call f args ⟨.leaf, 0⟩ = some (v, s')) (ha : ∀ D, cls D args) (hv : ∀ D, v.cl D) : Di P T f args v := by
 intro D σ s w H
 have hc : CallsIn Fence.wide 0 P f (bD σ args).toArray w _ := callsIn_wide.2 (QO hE h ha H.XR σ)
 refine CallsIn.mono (F := Fence.wide) hc ?_
 rintro e w' ⟨D', σ', h1, h2, h3, h4, _⟩
 refine ⟨D, σ, ?_, h3.hr H, h3.ext, hv D, Nat.le_refl _⟩
 rw [h1]
 exact congrArg Ending.returned ((jP (σ := fun _ => ⟨0, 0, 0⟩) (D := fun _ => False) (fun _ h => h.elim) v (hv _)).trans (jP (σ := fun _ => ⟨0, 0, 0⟩) (D := fun _ => False) (fun _ h => h.elim) v (hv _)).symm)
end
end
end Go.Ai
end
