/- An evaluator of the model, proved right: what it answers holds for every world and tape. -/
import Derived.Test.YticpmplmbobnpaaGreatDoorA1
import Derived.Laws.LoneSync
import Derived.Laws.IdiomStrings
import Derived.Laws.Entries
import Derived.MapKept
import Derived.RangeFuncLeaves
import Derived.RecoverIn
import Derived.OrdersIn
import Derived.TacticsIn
set_option linter.unusedVariables false
set_option linter.unusedSimpArgs false
section
namespace Go.Ai
noncomputable section
section
variable {P : Program} {T : Tbl} {D : Nat → Prop} {σ : Nat → Loc} {s : St} {w : World}
theorem stay_run (hT : TblOK P T) (H : HR T.gl D σ s w) {st xt elem : Nat} {is ix ie : TypeInfo} {xd de : TypeDesc} (hst : T.ti st = some (is, .slice elem)) (hxt : T.ti xt = some (ix, xd))
    (hxd : intDesc xd = false) (hel : T.ti elem = some (ie, de)) {n : Nat} {x : AV} {src : List AV} (hx : x.cl D) (hsrc : srcOf s ie.size x = some (n, src))
    (base : Option Addr) (sLen sCap : Nat) (hle : sLen + n ≤ sCap) (ty : TypeId) {w' : World}
    (hst' : ∀ a, base = some a → (storeCells (a.add (sLen * ie.size)) (concs σ src)).run P w = .ok () w') (hn : base = none → w' = w) :
    (Builtin.append_ #[st, xt] ty #[.slice base sLen sCap, conc σ x]).run P w = .ok (.slice base (sLen + n) sCap) w' := by
  obtain ⟨h1, h2, _, _⟩ := srcOf_run (P := P) (w := w) H hx hsrc
  have hxi := notInt hxd
  simp only [Builtin.append_, List.getElem?_toArray, List.getElem?_cons_zero, List.getElem?_cons_succ, Sem.run_bind, run_underlying (hT.ti _ _ _ hst).2, Result.andThen_ok,
    sizeOf_run hT hel, run_underlying (hT.ti _ _ _ hxt).2, Sem.run_pure, hxi, Bool.false_eq_true, if_false, h1]
  rw [if_pos hle]
  simp only [Bool.not_false, if_true, Sem.run_bind, h2, Result.andThen_ok]
  cases base with
  | none => rw [hn rfl]; rfl
  | some a => simp only [Sem.run_bind, hst' a rfl, Result.andThen_ok, Sem.run_pure]
theorem scalars_iff : ∀ {l : List AV}, scalars l = true ↔ ∀ v ∈ l, v.scalar = true
  | [] => by simp [scalars]
  | v :: vs => by simp [scalars, scalars_iff (l := vs)]
theorem concs_one {l : List AV} (h : scalars l = true) : ∀ v ∈ concs σ l, v.oneCell' = true := by
  intro v hv
  rw [concs_eq] at hv
  obtain ⟨u, hu, rfl⟩ := List.mem_map.1 hv
  exact scalar_oneCell σ (scalars_iff.1 h u hu)
theorem grow_sim (hT : TblOK P T) (H : HR T.gl D σ s w) {st xt elem : Nat} {is ix ie : TypeInfo} {xd de : TypeDesc} (hst : T.ti st = some (is, .slice elem)) (hxt : T.ti xt = some (ix, xd))
    (hxd : intDesc xd = false) (hel : T.ti elem = some (ie, de)) {z : List AV} (hz : zeroOf T elem = some z) (hsz : ie.size ≠ 0) (hby : ie.bytes ≤ 10000) {n : Nat} {x : AV} {src old : List AV} (hx : x.cl D) (hsrc : srcOf s ie.size x = some (n, src))
    (hn : n ≤ 100000) (base : Option Addr) (sLen sCap : Nat) (hle : sLen ≤ sCap) (hneed : sCap < sLen + n) (hs : sLen ≤ 100000)
    (hold : (Builtin.firstCells ie.size sLen (.slice base sLen sCap)).run P { w with drawn := w.drawn + 1 } = .ok (concs σ old).toArray { w with drawn := w.drawn + 1 }) (holdc : cls D old) (holdl : old.length = sLen * ie.size) (ty : TypeId)
    (hr : s.next < 16000000) : Sim P T.gl s.next D σ w (Builtin.append_ #[st, xt] ty #[.slice base sLen sCap, conc σ x]) (.slice s.next 0 (sLen + n) (sLen + n) true) (s.new (.cells (old ++ src) ie.size false false)) := by
  obtain ⟨_, _, h3, h4⟩ := srcOf_run (P := P) (w := w) H hx hsrc
  obtain ⟨q, h1, h2⟩ := grow_run hT H hst hxt hxd hel hz hsz hby hx hsrc hn base sLen sCap hle hneed hs hold holdc holdl ty
  have hC : ((concs σ (old ++ src)).toArray ++ Builtin.zeroCells (concs σ z).toArray q).size = (old ++ src).length + q * ie.size := by
    simp only [Builtin.zeroCells, Array.size_append, List.size_toArray, concs_length, Array.size_map, Array.size_range, h2]
  obtain ⟨k1, k2⟩ := HR.alloc H.drew hr (cls_append holdc h3) ((concs σ (old ++ src)).toArray ++ Builtin.zeroCells (concs σ z).toArray q) elem ie.size q false (by rw [hC]; omega) (fun i v hi => by
    have hlt : i < (old ++ src).length := (List.getElem?_eq_some_iff.1 hi).1
    rw [Array.getElem?_append, if_pos (by simpa [concs_length] using hlt)]
    exact conc_get σ _ i v hi) (by simp)
  refine ⟨_, _, _, ?_, k1, (Ext.drewn s.next D σ w).trans k2 (Nat.le_refl _), .inr rfl, Nat.le_succ _⟩
  rw [h1]
  simp [conc, upd_same]
theorem drop_take_get {α : Type} {c : List α} {o k i : Nat} {v : α} (h : ((c.drop o).take k)[i]? = some v) : c[o + i]? = some v ∧ i < k := by
  rw [List.getElem?_take] at h
  split at h
  · rw [List.getElem?_drop] at h; exact ⟨h, by assumption⟩
  · cases h
theorem inplace_sim (hT : TblOK P T) (H : HR T.gl D σ s w) {st xt elem : Nat} {is ix ie : TypeInfo} {xd de : TypeDesc} (hst : T.ti st = some (is, .slice elem)) (hxt : T.ti xt = some (ix, xd))
    (hxd : intDesc xd = false) (hel : T.ti elem = some (ie, de)) {n : Nat} {x : AV} {src : List AV} (hx : x.cl D) (hsrc : srcOf s ie.size x = some (n, src)) (hss : scalars src = true)
    {m o len cap : Nat} (hD : D m) {c : List AV} (hg : s.get m = some (.cells c ie.size false false)) (hlen : len ≤ cap) (hcap : cap < len + n) (hfit : len + n ≤ cap + (σ m).spare) (hc : o + cap * ie.size = c.length) (ty : TypeId)
    (hr : s.next < 16000000) : Sim P T.gl s.next D σ w (Builtin.append_ #[st, xt] ty #[conc σ (.slice m o len cap true), conc σ x]) (.slice s.next 0 (len + n) (len + n) true)
      ((s.put m none).new (.cells ((c.drop o).take (len * ie.size) ++ src) ie.size false false)) := by
  obtain ⟨_, _, h3, h4⟩ := srcOf_run (P := P) (w := w) H hx hsrc
  obtain ⟨C, e, fz, p1, p2, p3, p4, p5, p6⟩ := H.obj m hD _ hg
  have m1 : len * ie.size ≤ cap * ie.size := Nat.mul_le_mul_right _ hlen
  have m2 : (len + n) * ie.size ≤ (cap + (σ m).spare) * ie.size := Nat.mul_le_mul_right _ hfit
  rw [Nat.add_mul, Nat.add_mul] at m2
  have m3 : (cap + (σ m).spare - (len + n)) * ie.size + (len * ie.size + n * ie.size) = cap * ie.size + (σ m).spare * ie.size := by
    rw [← Nat.add_mul, ← Nat.add_mul, ← Nat.add_mul]; congr 1; omega
  obtain ⟨q1, q2, q3, q4, q5, q6⟩ := setCells_heap (σ m).block (concs σ src) ((σ m).off + o + len * ie.size) w C e fz p1
  have hrun : (storeCells ((⟨(σ m).block, (σ m).off + o, none⟩ : Addr).add (len * ie.size)) (concs σ src)).run P w = .ok () (w.setCells (σ m).block ((σ m).off + o + len * ie.size) (concs σ src)) := by
    rw [addr_add]
    refine run_storeCells_cells (σ m).block ((σ m).off + o + len * ie.size) (concs σ src) 0 w (fun j hj => ?_) (fun j hj => ?_) (concs_one hss)
    · rw [concs_length, h4] at hj
      simp only [World.cell?, p1, Option.isSome_none, Bool.false_eq_true, if_false]
      rw [Array.getElem?_eq_getElem (by omega)]; rfl
    · rw [concs_length, h4] at hj
      have := p6 rfl ((σ m).off + o + len * ie.size + 0 + j) (by omega) (by omega)
      simp only [World.frozen?, p1, Bool.and_eq_false_imp, decide_eq_true_eq, decide_eq_false_iff_not]
      intro a b; exact this ⟨a, b⟩
  have hcl : cls D ((c.drop o).take (len * ie.size) ++ src) := cls_append (cls_sub p4 fun u hu => List.mem_of_mem_drop (List.mem_of_mem_take hu)) h3
  have hll : ((c.drop o).take (len * ie.size) ++ src).length = len * ie.size + n * ie.size := by simp [h4]; omega
  obtain ⟨k1, k2⟩ := HR.reuse H hr hD hg p1 q1 (setA_size _ _ _) q3 (fun b hb => q2 b hb) (fun i hi => setA_out _ _ _ _ (by rw [concs_length, h4]; omega)) q4 q5 q6 hcl
    ((σ m).off + o) (cap + (σ m).spare - (len + n)) (by omega) (by rw [hll]; omega) (fun i v hi => by
      rw [List.getElem?_append] at hi
      have hl1 : ((c.drop o).take (len * ie.size)).length = len * ie.size := by simp; omega
      rw [hl1] at hi
      split at hi
      · rename_i hlt
        obtain ⟨g1, _⟩ := drop_take_get hi
        rw [setA_out _ _ _ _ (by omega), Nat.add_assoc]
        exact p3 _ _ g1
      · rename_i hge
        have hlt : i - len * ie.size < src.length := (List.getElem?_eq_some_iff.1 hi).1
        have := setA_in (concs σ src) C ((σ m).off + o + len * ie.size) (i - len * ie.size) (by rw [concs_length]; exact hlt) (by rw [concs_length, h4]; omega)
        rw [show (σ m).off + o + i = (σ m).off + o + len * ie.size + (i - len * ie.size) by omega, this, concs_eq, List.getElem?_map, hi]
        rfl)
  refine ⟨_, _, _, ?_, k1, k2, .inr rfl, Nat.le_succ _⟩
  simp only [conc, if_true]
  have := stay_run hT H hst hxt hxd hel hx hsrc (some ⟨(σ m).block, (σ m).off + o, none⟩) len (cap + (σ m).spare) hfit ty (w' := w.setCells (σ m).block ((σ m).off + o + len * ie.size) (concs σ src))
    (fun a ha => by cases ha; exact hrun) (by simp)
  rw [this]
  simp only [conc, upd_same, if_true, Nat.add_zero]
  congr 2; omega
theorem evAppend_sim (hT : TblOK P T) (H : HR T.gl D σ s w) {tys : List Nat} {ty : TypeId} {a x v : AV} {s' : St} (ha : a.cl D) (hx : x.cl D) (h : evAppend T s tys a x = some (v, s')) :
    Sim P T.gl s.next D σ w (Builtin.append_ tys.toArray ty #[conc σ a, conc σ x]) v s' := by
  unfold evAppend at h
  simp only [setF_eq] at h
  split at h
  case h_2 => cases h
  rename_i st xt
  split at h
  case h_2 => cases h
  rename_i is elem ix xd hst hxt
  split at h
  · cases h
  rename_i hxd
  have hxd : intDesc xd = false := by simpa using hxd
  split at h
  case h_2 => cases h
  rename_i ie de z hel hz
  split at h
  · cases h
  rename_i hc
  simp only [not_or, Bool.not_eq_false] at hc
  obtain ⟨hsz, hby, hroom⟩ := hc
  have hby : ie.bytes ≤ 10000 := by omega
  have hr := room_lt hroom
  split at h
  case h_2 => cases h
  rename_i n src hsrc
  split at h
  · cases h
  rename_i hc
  simp only [not_or, Bool.not_eq_false] at hc
  obtain ⟨hn, hss⟩ := hc
  have hn : n ≤ 100000 := by omega
  obtain ⟨_, _, h3, h4⟩ := srcOf_run (P := P) (w := w) H hx hsrc
  split at h
  · split at h
    · rename_i hn0
      cases h
      refine Sim.pure H ?_ trivial
      have := stay_run hT H hst hxt hxd hel hx hsrc none 0 0 (by omega) ty (w' := w) (by simp) (fun _ => rfl)
      simp only [conc] at this ⊢
      rw [this]; simp [hn0]
    · cases h
      have := grow_sim hT H hst hxt hxd hel hz hsz hby (old := []) hx hsrc hn none 0 0 (by omega) (by omega) (by omega) (by simp [Builtin.firstCells, concs]) (by simp [cls]) (by simp) ty hr
      simpa [conc] using this
  · rename_i m o len cap full
    have hD : D m := by simpa [AV.cl] using ha
    split at h
    · rename_i hn0
      split at h
      case isFalse => cases h
      rename_i hlc
      cases h
      refine Sim.pure H ?_ ha
      subst hn0
      have hs0 : src = [] := by simpa using h4
      subst hs0
      have := stay_run hT H hst hxt hxd hel hx hsrc (some ⟨(σ m).block, (σ m).off + o, none⟩) len (if full then cap + (σ m).spare else cap) (by split <;> omega) ty (w' := w)
        (fun a _ => rfl) (by simp)
      simp only [conc] at this ⊢
      rw [this]; rfl
    · split at h
      · cases h
      rename_i hn0 hb
      simp only [not_or, Nat.not_lt] at hb
      split at h
      case h_2 => cases h
      rename_i c esz ex fz hg
      split at h
      · rename_i hfit
        split at h
        · cases h
        rename_i hcc
        simp only [Bool.or_eq_true, decide_eq_true_eq, not_or, Bool.not_eq_true, Nat.not_le, Nat.not_lt] at hcc
        obtain ⟨⟨h5, h6⟩, h7⟩ := hcc
        subst h5
        cases h
        have m1 : (len + n) * ie.size = len * ie.size + n * ie.size := Nat.add_mul _ _ _
        obtain ⟨_, _, _, _, _, p4, _⟩ := H.obj m hD _ hg
        obtain ⟨w', k1, k2, k3⟩ := storeCells_sim (P := P) src c s w m (o + len * ie.size) 0 esz ex H hD h6 hg (by omega) h3 hss
        refine ⟨D, σ, w', ?_, k2, k3, ha, Nat.le_refl _⟩
        have := stay_run hT H hst hxt hxd hel hx hsrc (some ⟨(σ m).block, (σ m).off + o, none⟩) len (if full then cap + (σ m).spare else cap) (by split <;> omega) ty (w' := w')
          (fun a ha => by cases ha; rw [addr_add, Nat.add_assoc]; exact k1) (by simp)
        simp only [conc] at this ⊢
        exact this
      · rename_i hfit
        split at h
        · cases h
        rename_i hol
        split at h
        · rename_i hfe
          split at h
          · cases h
          rename_i hcc
          simp only [Bool.or_eq_true, decide_eq_true_eq, not_or, Bool.not_eq_true, Nat.not_le, Bool.not_eq_eq_eq_not, Bool.not_true, Bool.not_false, beq_iff_eq, Bool.not_eq_true', Bool.not_eq_false'] at hcc
          obtain ⟨⟨⟨h5, h6⟩, h7⟩, h8⟩ := hcc
          have h7 : esz = ie.size := by simpa using h7
          have h8 : o + cap * ie.size = c.length := by simpa using h8
          obtain ⟨rfl, rfl⟩ := hfe
          subst h5 h7
          cases h
          by_cases hroomb : len + n ≤ cap + (σ m).spare
          · exact inplace_sim hT H hst hxt hxd hel hx hsrc hss hD hg hb.2 (by omega) hroomb h8 ty hr
          · obtain ⟨l1, l2⟩ := loadCells_conc (P := P) H.drew hD hg (o := o) (k := len * ie.size) (by omega)
            have := grow_sim hT H hst hxt hxd hel hz hsz hby (old := (c.drop o).take (len * ie.size)) hx hsrc hn (some ⟨(σ m).block, (σ m).off + o, none⟩) len (cap + (σ m).spare) (by omega) (by omega) hb.1
              (by simpa [Builtin.firstCells] using l1) l2 (by simp; omega) ty hr
            obtain ⟨D', σ', w', g1, g2, g3, g4⟩ := this
            refine ⟨D', σ', w', by simpa [conc] using g1, ?_, g3, g4⟩
            have hmn : m ≠ s.next := H.fresh hD
            refine (g2.kill h6).congr (fun j => ?_) rfl
            have hnx : (s.put m none).next = s.next := rfl
            by_cases hj : j = s.next
            · rw [hj, St.get_put_other (s.new _) _ hmn.symm, St.get_new_same s _ hr, ← hnx, St.get_new_same (s.put m none) _ hr]
            · rw [St.get_new_other (s.put m none) _ (by rw [hnx]; exact hj)]
              by_cases hjm : j = m
              · subst hjm; rw [St.get_put_same _ _ h6, St.get_put_same _ _ h6]
              · rw [St.get_put_other _ _ hjm, St.get_put_other _ _ hjm, St.get_new_other _ _ hj]
        · rename_i hfe
          cases h
          have hcap : (if full then cap + (σ m).spare else cap) = cap := by
            cases full with
            | false => rfl
            | true =>
              have : ex = true := by cases ex <;> simp_all
              subst this
              obtain ⟨_, _, _, _, _, _, _, p5, _⟩ := H.obj m hD _ hg
              simp [p5 rfl]
          obtain ⟨l1, l2⟩ := loadCells_conc (P := P) H.drew hD hg (o := o) (k := len * ie.size) (by omega)
          have := grow_sim hT H hst hxt hxd hel hz hsz hby (old := (c.drop o).take (len * ie.size)) hx hsrc hn (some ⟨(σ m).block, (σ m).off + o, none⟩) len cap (by omega) (by omega) hb.1
            (by simpa [Builtin.firstCells] using l1) l2 (by simp; omega) ty hr
          simp only [conc, hcap] at this ⊢
          exact this
  · cases h
end
end
end Go.Ai
end
section
namespace Go.Ai
noncomputable section
section
variable {P : Program} {T : Tbl} {D : Nat → Prop} {σ : Nat → Loc} {s : St} {w : World}
def evUn (op : UnOp) (x : AV) : Option AV :=
  match op, x with
  | .not, .bool b => some (.bool !b)
  | .xor, .int k n => evInt .xor k (if k.signed then -1 else k.max) n
  | .neg, .int k n => evInt .sub k 0 n
  | _, _ => none
theorem evUn_sim (H : HR T.gl D σ s w) {op : UnOp} {x v : AV} (h : evUn op x = some v) : Sim P T.gl s.next D σ w (Op.unary op (conc σ x)) v s := by
  unfold evUn at h
  split at h
  · cases h; exact Sim.pure H rfl trivial
  · rename_i k n
    simp only [evInt, Option.some.injEq] at h
    subst h
    exact Sim.pure H (by simp [conc, Op.unary, Op.intBits]) trivial
  · rename_i k n
    simp only [evInt, Option.some.injEq] at h
    subst h
    exact Sim.pure H (by simp [conc, Op.unary, Op.intArith]) trivial
  · cases h
noncomputable def evUnsafe (T : Tbl) (s : St) (src n o : Nat) : Option AV :=
  match T.ti src with
  | some (_, .pointer t) => match T.ti t, s.get n with
    | some (i, _), some (.cells c _ _ _) => match Nat.beq i.size 0, hasN c (o + 1) with
      | false, true => some (.ptr n o)
      | _, _ => none
    | _, _ => none
  | _ => none
theorem evUnsafe_run (hT : TblOK P T) (H : HR T.gl D σ s w) {src dst n o : Nat} {v : AV} {i : TypeInfo} (hx : (AV.ptr n o).cl D) (h : evUnsafe T s src n o = some v) (hd : T.ti dst = some (i, .unsafePointer)) :
    (convert src dst (conc σ (.ptr n o))).run P w = .ok (conc σ v) w ∧ v.cl D := by
  unfold evUnsafe at h
  split at h
  case h_2 => cases h
  rename_i i0 t hs
  split at h
  case h_2 => cases h
  rename_i i1 d1 c esz ex fz ht hg
  split at h
  case h_2 => cases h
  rename_i hz hn
  cases h
  have hD : D n := by simpa [AV.cl] using hx
  rw [hasN_iff] at hn
  refine ⟨?_, hx⟩
  have hc := (H.load hD hg (o := o) (v := c[o]'(by omega)) (List.getElem?_eq_getElem (by omega))).1
  have hz' : ¬ i1.size = 0 := fun e => by rw [e] at hz; cases hz
  exact run_convert_to_unsafe (hT.ti _ _ _ hs).2 (hT.ti _ _ _ hd).2 (by rw [(hT.ti _ _ _ ht).1]; simpa using hz') hc
def ofBytes : List AV → Option (List UInt8)
  | [] => some []
  | .int .u8 (.ofNat n) :: r => match Nat.blt n 256, ofBytes r with
    | true, some l => some (UInt8.ofNat n :: l)
    | _, _ => none
  | _ => none
theorem ofBytes_at : ∀ {c : List AV} {l : List UInt8}, ofBytes c = some l → ∀ (j : Nat) (hj : j < l.length), c[j]? = some (.int .u8 (l[j].toNat : Int))
  | [], l, h, j, hj => by cases h; simp at hj
  | .int .u8 (.ofNat n) :: r, l, h, j, hj => by
    simp only [ofBytes] at h
    split at h
    · rename_i l' hb hr
      cases h
      rw [Nat.blt_eq] at hb
      cases j with
      | zero =>
        have : (UInt8.ofNat n).toNat = n := by rw [UInt8.toNat_ofNat']; omega
        simp [this]
      | succ j =>
        have := ofBytes_at hr j (by simpa using hj)
        simpa using this
    · cases h
  | .bool _ :: _, _, h, _, _ => by cases h
  | .int .u8 (.negSucc _) :: _, _, h, _, _ => by cases h
  | .str _ :: _, _, h, _, _ => by cases h
  | .nilPtr :: _, _, h, _, _ => by cases h
  | .ptr _ _ :: _, _, h, _, _ => by cases h
  | .glob _ _ :: _, _, h, _, _ => by cases h
  | .nilSlice :: _, _, h, _, _ => by cases h
  | .slice _ _ _ _ _ :: _, _, h, _, _ => by cases h
  | .edge _ _ _ _ :: _, _, h, _, _ => by cases h
  | .nilMap :: _, _, h, _, _ => by cases h
  | .map _ :: _, _, h, _, _ => by cases h
  | .clo _ _ _ :: _, _, h, _, _ => by cases h
  | .nilFunc :: _, _, h, _, _ => by cases h
  | .iface _ _ :: _, _, h, _, _ => by cases h
  | .nilIface :: _, _, h, _, _ => by cases h
  | .agg _ :: _, _, h, _, _ => by cases h
  | .tuple _ :: _, _, h, _, _ => by cases h
  | .it _ :: _, _, h, _, _ => by cases h
  | .yld _ :: _, _, h, _, _ => by cases h
  | .int .u16 _ :: _, _, h, _, _ => by cases h
  | .int .u32 _ :: _, _, h, _, _ => by cases h
  | .int .u64 _ :: _, _, h, _, _ => by cases h
  | .int .i8 _ :: _, _, h, _, _ => by cases h
  | .int .i16 _ :: _, _, h, _, _ => by cases h
  | .int .i32 _ :: _, _, h, _, _ => by cases h
  | .int .i64 _ :: _, _, h, _, _ => by cases h
noncomputable def evBytesBack (T : Tbl) (s : St) (src n o len : Nat) : Option AV :=
  match T.ti src with
  | some (_, .slice e) => match T.ti e, s.get n with
    | some (_, .int .u8), some (.cells c _ _ _) => match ofBytes ((c.drop o).take len) with
      | some l => match Nat.beq l.length len with
        | true => some (.str l)
        | false => none
      | none => none
    | _, _ => none
  | _ => none
theorem evBytesBack_run (hT : TblOK P T) (H : HR T.gl D σ s w) {src dst n o len cap : Nat} {full : Bool} {v : AV} {i : TypeInfo} (hx : (AV.slice n o len cap full).cl D) (h : evBytesBack T s src n o len = some v) (hd : T.ti dst = some (i, .string)) :
    (convert src dst (conc σ (.slice n o len cap full))).run P w = .ok (conc σ v) w ∧ v.cl D := by
  unfold evBytesBack at h
  split at h
  case h_2 => cases h
  rename_i i0 e hs
  split at h
  case h_2 => cases h
  rename_i i1 c esz ex fz he hg
  split at h
  case h_2 => cases h
  rename_i l hl
  split at h
  case h_2 => cases h
  rename_i hlen
  cases h
  rw [Nat.beq_eq] at hlen
  subst hlen
  have hD : D n := by simpa [AV.cl] using hx
  refine ⟨?_, trivial⟩
  simp only [conc]
  refine run_convert_bytes_back w src dst e _ _ l (hT.ti _ _ _ hs).2 (hT.ti _ _ _ he).2 (hT.ti _ _ _ hd).2 fun j hj => ?_
  have h1 := ofBytes_at hl j hj
  rw [List.getElem?_take, if_pos hj, List.getElem?_drop] at h1
  have := (H.load hD hg h1).1
  rw [addr_add, Nat.add_assoc]
  exact this
noncomputable def evConvert (T : Tbl) (s : St) (src dst : Nat) (x : AV) : Option AV :=
  match T.ti src, T.ti dst with
  | some _, some (_, d) => match d, x with
    | .int k, .int _ n => some (.int k (k.wrap n))
    | .string, .int _ n => if 0 ≤ n ∧ n < 128 then some (.str [UInt8.ofNat n.toNat]) else none
    | .string, .str l => some (.str l)
    | .unsafePointer, .ptr n o => evUnsafe T s src n o
    | .string, .slice n o len _ _ => evBytesBack T s src n o len
    | _, _ => none
  | _, _ => none
theorem evConvert_sim (hT : TblOK P T) (H : HR T.gl D σ s w) {src dst : Nat} {x v : AV} (hx : x.cl D) (h : evConvert T s src dst x = some v) :
    Sim P T.gl s.next D σ w (convert src dst (conc σ x)) v s := by
  unfold evConvert at h
  split at h
  case h_2 => cases h
  rename_i y i d h1 h2
  obtain ⟨i0, d0⟩ := y
  have u1 := run_underlying (w := w) (hT.ti _ _ _ h1).2
  have u2 := run_underlying (w := w) (hT.ti _ _ _ h2).2
  split at h
  · cases h
    refine Sim.pure H ?_ trivial
    simp only [convert, Sem.run_bind, u1, u2, Result.andThen_ok, conc, Conv.intToInt, Sem.run_pure]
  · rename_i k n
    split at h
    case isFalse => cases h
    rename_i hn
    cases h
    refine Sim.pure H ?_ trivial
    have hv : Utf8.valid n = true := by simp [Utf8.valid]; omega
    have he : Utf8.encode n = ⟨#[UInt8.ofNat n.toNat]⟩ := by
      simp only [Utf8.encode, hv, if_true]
      rw [if_pos (by omega)]
    cases d0 <;> simp only [convert, Sem.run_bind, u1, u2, Result.andThen_ok, conc, Conv.intToString, Sem.run_pure, he]
  · cases h
    refine Sim.pure H ?_ trivial
    cases d0 <;> simp only [convert, Sem.run_bind, u1, u2, Result.andThen_ok, conc, Sem.run_pure]
  · obtain ⟨k1, k2⟩ := evUnsafe_run hT H hx h h2
    exact Sim.pure H k1 k2
  · obtain ⟨k1, k2⟩ := evBytesBack_run hT H hx h h2
    exact Sim.pure H k1 k2
  · cases h
def evMakeInterface (T : Tbl) (t : Nat) (x : AV) : Option AV :=
  match T.ti t with
  | some (_, .interface _) => none
  | some _ => some (.iface t x)
  | none => none
theorem evMakeInterface_sim (hT : TblOK P T) (H : HR T.gl D σ s w) {t : Nat} {x v : AV} (hx : x.cl D) (h : evMakeInterface T t x = some v) :
    Sim P T.gl s.next D σ w (Instr.makeInterface t (conc σ x)) v s := by
  unfold evMakeInterface at h
  split at h
  · cases h
  · rename_i y hn h1
    obtain ⟨i, d⟩ := y
    cases h
    refine Sim.pure H ?_ hx
    simp only [Instr.makeInterface, Sem.run_bind, run_underlying (hT.ti _ _ _ h1).2, Result.andThen_ok, conc]
    cases d <;> first | rfl | exact (hn _ _ rfl).elim
  · cases h
def evExtract (x : AV) (i : Nat) : Option AV :=
  match x with
  | .tuple vs => vs[i]?
  | _ => none
theorem evExtract_sim (H : HR T.gl D σ s w) {i : Nat} {x v : AV} (hx : x.cl D) (h : evExtract x i = some v) : Sim P T.gl s.next D σ w (Instr.extract (conc σ x) i) v s := by
  unfold evExtract at h
  split at h
  · rename_i vs
    refine Sim.pure H ?_ (AV.cl_of_get hx h)
    simp only [Instr.extract, conc, List.getElem?_toArray, concs_eq, List.getElem?_map, h, Option.map_some, Sem.run_pure]
  · cases h
def evLen (T : Tbl) (s : St) (tys : List Nat) (x : AV) : Option AV :=
  match tys with
  | t :: _ => match T.ti t, x with
    | some (_, .string), .str l => some (.int .i64 l.length)
    | some (_, .slice _), .slice _ _ n _ _ => some (.int .i64 n)
    | some (_, .slice _), .nilSlice => some (.int .i64 0)
    | some (_, .slice _), .edge .. => some (.int .i64 0)
    | some (_, .map _ _), .nilMap => some (.int .i64 0)
    | some (_, .map _ _), .map m => match s.get m with
      | some (.map es _) => some (.int .i64 es.length)
      | _ => none
    | _, _ => none
  | [] => none
theorem evLen_sim (hT : TblOK P T) (H : HR T.gl D σ s w) {tys : List Nat} {ty : TypeId} {x v : AV} (hx : x.cl D) (h : evLen T s tys x = some v) :
    Sim P T.gl s.next D σ w (Builtin.len_ tys.toArray ty #[conc σ x]) v s := by
  unfold evLen at h
  split at h
  case h_2 => cases h
  rename_i t rest
  split at h
  case h_7 => cases h
  case h_6 =>
    rename_i i k e m ht
    split at h
    case h_2 => cases h
    rename_i es ver hg
    cases h
    have hD : D m := by simpa [AV.cl] using hx
    obtain ⟨ents, clock, h1, h2, _⟩ := H.obj m hD _ hg
    refine Sim.pure H ?_ trivial
    have hl : ents.size = es.length := by simpa [rowsIn, rowsOf] using h2.length_eq
    simp only [Builtin.len_, List.getElem?_toArray, List.getElem?_cons_zero, Sem.run_bind, run_underlying (hT.ti _ _ _ ht).2, Result.andThen_ok, conc, MapKept.run_getObj_map h1, Sem.run_pure, goInt, hl]
  all_goals
    rename_i ht
    cases h
    refine Sim.pure H ?_ trivial
    simp only [Builtin.len_, List.getElem?_toArray, List.getElem?_cons_zero, Sem.run_bind, run_underlying (hT.ti _ _ _ ht).2, Result.andThen_ok, conc, Sem.run_pure, goInt]
    try rfl
end
end
end Go.Ai
end
section
namespace Go.Ai
noncomputable section
open MapKept
theorem isKey (b : ByteArray) : IsKey .string (.string b) := trivial
def evFind (k : List UInt8) : List (List UInt8 × AV) → Option AV
  | [] => none
  | p :: r => match beqB p.1 k with
    | true => some p.2
    | false => evFind k r
theorem evFind_some {k : List UInt8} {v : AV} : ∀ {es : List (List UInt8 × AV)}, evFind k es = some v → (k, v) ∈ es
  | [], h => by cases h
  | p :: r, h => by
    simp only [evFind] at h
    split at h
    · rename_i hb
      cases h
      have := beqB_iff.1 hb
      subst this
      exact .head _
    · exact .tail _ (evFind_some h)
theorem evFind_none {k : List UInt8} : ∀ {es : List (List UInt8 × AV)}, evFind k es = none → ∀ p ∈ es, p.1 ≠ k
  | [], _ => by simp
  | p :: r, h => by
    simp only [evFind] at h
    split at h
    · cases h
    · rename_i hb
      intro q hq
      rcases List.mem_cons.1 hq with rfl | hq
      · intro e; rw [beqB_iff.2 e] at hb; cases hb
      · exact evFind_none h q hq
theorem pair_unique : ∀ {es : List (List UInt8 × AV)}, (es.map (·.1)).Nodup → ∀ {k : List UInt8} {v v' : AV}, (k, v) ∈ es → (k, v') ∈ es → v = v'
  | [], _, _, _, _, h, _ => by cases h
  | p :: r, hn, k, v, v', h1, h2 => by
    simp only [List.map_cons, List.nodup_cons] at hn
    rcases List.mem_cons.1 h1 with h1 | h1
    · rcases List.mem_cons.1 h2 with h2 | h2
      · rw [← h1] at h2; cases h2; rfl
      · exact (hn.1 (List.mem_map.2 ⟨_, h2, by rw [← h1]⟩)).elim
    · rcases List.mem_cons.1 h2 with h2 | h2
      · exact (hn.1 (List.mem_map.2 ⟨_, h1, by rw [← h2]⟩)).elim
      · exact pair_unique hn.2 h1 h2
section
variable {P : Program} {T : Tbl} {D : Nat → Prop} {σ : Nat → Loc} {s : St} {w : World}
theorem row_of_entry {l : List MapEntry} {es : List (List UInt8 × AV)} (hp : (rowsIn l).Perm (rowsOf σ es)) {e : MapEntry} (he : e ∈ l) :
    ∃ p ∈ es, e.key = .string ⟨p.1.toArray⟩ ∧ e.val = conc σ p.2 := by
  have : (e.key, e.val) ∈ rowsOf σ es := hp.mem_iff.1 (List.mem_map.2 ⟨e, he, rfl⟩)
  obtain ⟨p, hp, h⟩ := List.mem_map.1 this
  simp only [Prod.mk.injEq] at h
  exact ⟨p, hp, h.1.symm, h.2.symm⟩
theorem entry_of_row {l : List MapEntry} {es : List (List UInt8 × AV)} (hp : (rowsIn l).Perm (rowsOf σ es)) {p : List UInt8 × AV} (h : p ∈ es) :
    ∃ e ∈ l, e.key = .string ⟨p.1.toArray⟩ ∧ e.val = conc σ p.2 := by
  have : ((Value.string ⟨p.1.toArray⟩, conc σ p.2) : Value × Value) ∈ rowsIn l := hp.mem_iff.2 (List.mem_map.2 ⟨p, h, rfl⟩)
  obtain ⟨e, he, h⟩ := List.mem_map.1 this
  simp only [Prod.mk.injEq] at h
  exact ⟨e, he, h.1, h.2⟩
theorem str_inj {a b : List UInt8} (h : (Value.string ⟨a.toArray⟩) = .string ⟨b.toArray⟩) : a = b := by simpa using h
theorem keys_str {l : List MapEntry} {es : List (List UInt8 × AV)} (hp : (rowsIn l).Perm (rowsOf σ es)) : ∀ x ∈ l, IsKey .string x.key := by
  intro x hx
  obtain ⟨p, _, h, _⟩ := row_of_entry hp hx
  rw [h]; trivial
theorem find_some {ents : Array MapEntry} {es : List (List UInt8 × AV)} (hp : (rowsIn ents.toList).Perm (rowsOf σ es)) (hn : (es.map (·.1)).Nodup) {k : List UInt8} {v : AV} (h : evFind k es = some v) :
    ∃ j e, Instr.findNow .string (.string ⟨k.toArray⟩) ents.toList 0 = some (some (j, e.val)) ∧ ents[j]? = some e ∧ e.key = .string ⟨k.toArray⟩ ∧ e.val = conc σ v := by
  rcases findNow_spec (isKey ⟨k.toArray⟩) ents.toList 0 (keys_str hp) with ⟨_, h2⟩ | ⟨j, e, h1, h2, h3⟩
  · obtain ⟨e, he, h4, _⟩ := entry_of_row hp (evFind_some h)
    exact absurd h4 (h2 e he)
  · refine ⟨j, e, by simpa using h1, by simpa using h2, h3, ?_⟩
    obtain ⟨p, hpm, h4, h5⟩ := row_of_entry hp (List.mem_of_getElem? h2)
    rw [h3] at h4
    have hk := str_inj h4
    rw [h5]
    congr 1
    exact pair_unique hn (k := k) (by rw [hk]; exact hpm) (evFind_some h)
theorem find_none {ents : Array MapEntry} {es : List (List UInt8 × AV)} (hp : (rowsIn ents.toList).Perm (rowsOf σ es)) {k : List UInt8} (h : evFind k es = none) :
    Instr.findNow .string (.string ⟨k.toArray⟩) ents.toList 0 = some none ∧ ∀ x ∈ ents.toList, x.key ≠ .string ⟨k.toArray⟩ := by
  rcases findNow_spec (isKey ⟨k.toArray⟩) ents.toList 0 (keys_str hp) with h1 | ⟨j, e, _, h2, h3⟩
  · exact h1
  · obtain ⟨p, hpm, h4, _⟩ := row_of_entry hp (List.mem_of_getElem? h2)
    rw [h3] at h4
    exact absurd (str_inj h4).symm (evFind_none h p hpm)
def zeroV (T : Tbl) (t : Nat) : Option AV :=
  match T.ti t with
  | some (i, _) => match i.zero with
    | some z => ofV z
    | none => none
  | none => none
theorem zeroV_run (hT : TblOK P T) {t : Nat} {z : AV} (h : zeroV T t = some z) : (zeroValue t).run P w = .ok (conc σ z) w ∧ z.cl D := by
  unfold zeroV at h
  split at h
  case h_2 => cases h
  rename_i i d ht
  split at h
  case h_2 => cases h
  rename_i zv hz
  obtain ⟨e, c⟩ := ofV_conc h σ D
  exact ⟨by rw [zeroValue_run hT ht hz, e], c⟩
def rowsAt (s : St) : AV → Option (List (List UInt8 × AV))
  | .nilMap => some []
  | .map m => match s.get m with
    | some (.map es _) => some es
    | _ => none
  | _ => none
def evLookup (T : Tbl) (s : St) (t : Nat) (x ix : AV) (ok : Bool) : Option AV :=
  match T.ti t with
  | some (_, .map key elem) => match T.ti key, ix with
    | some (_, .string), .str k =>
      match rowsAt s x with
      | some es => match evFind k es with
        | some v => some (if ok then .tuple [v, .bool true] else v)
        | none => match zeroV T elem with
          | some z => some (if ok then .tuple [z, .bool false] else z)
          | none => none
      | none => none
    | _, _ => none
  | _ => none
theorem evLookup_sim (hT : TblOK P T) (H : HR T.gl D σ s w) {t : Nat} {x ix v : AV} {ok : Bool} (hx : x.cl D) (h : evLookup T s t x ix ok = some v) :
    Sim P T.gl s.next D σ w (Instr.lookup t (conc σ x) (conc σ ix) ok) v s := by
  unfold evLookup at h
  split at h
  case h_2 => cases h
  rename_i i key elem ht
  split at h
  case h_2 => cases h
  rename_i ik k hk
  have ut := (hT.ti _ _ _ ht).2
  have uk := (hT.ti _ _ _ hk).2
  have ck : ∀ e, (Instr.checkKey e 10000 key (.string ⟨k.toArray⟩)).run P w = .ok () w := fun e => MapKept.run_checkKey uk (isKey _) e 9999
  split at h
  case h_2 => cases h
  rename_i es hes
  unfold rowsAt at hes
  split at hes
  · cases hes
    simp only [evFind] at h
    split at h
    case h_2 => cases h
    rename_i z hz
    cases h
    obtain ⟨hz1, hz2⟩ := zeroV_run (P := P) (σ := σ) (D := D) (w := w) hT hz
    refine Sim.pure H ?_ ?_
    · have hf : (Instr.findKey key (.string ⟨k.toArray⟩) []).run P w = .ok none w := MapKept.run_findKey uk rfl
      simp only [Instr.lookup, Sem.run_bind, run_underlying ut, Result.andThen_ok, conc, Sem.run_pure, ck, hf, hz1]
      cases ok <;> simp [conc, concs]
    · cases ok <;> simp [AV.cl, cls, hz2]
  · rename_i m
    split at hes
    case h_2 => cases hes
    rename_i es' ver hg
    cases hes
    have hD : D m := by simpa [AV.cl] using hx
    obtain ⟨ents, clock, h1, h2, h3, h4, _⟩ := H.obj m hD _ hg
    split at h
    · rename_i u hu
      cases h
      obtain ⟨j, e, f1, f2, f3, f4⟩ := find_some h2 h3 hu
      refine Sim.pure H ?_ ?_
      · simp only [Instr.lookup, Sem.run_bind, run_underlying ut, Result.andThen_ok, conc, Sem.run_pure, MapKept.run_getObj_map h1, ck, MapKept.run_findKey uk f1, f4]
        cases ok <;> simp [conc, concs]
      · have hc := h4 _ (evFind_some hu)
        cases ok <;> simp [AV.cl, cls, hc]
    · rename_i hu
      split at h
      case h_2 => cases h
      rename_i z hz
      cases h
      obtain ⟨hz1, hz2⟩ := zeroV_run (P := P) (σ := σ) (D := D) (w := w) hT hz
      refine Sim.pure H ?_ ?_
      · simp only [Instr.lookup, Sem.run_bind, run_underlying ut, Result.andThen_ok, conc, Sem.run_pure, MapKept.run_getObj_map h1, ck, MapKept.run_findKey uk (find_none h2 hu).1, hz1]
        cases ok <;> simp [conc, concs]
      · cases ok <;> simp [AV.cl, cls, hz2]
  · cases hes
theorem set_get {h : Array Obj} {b : Nat} (hb : b < h.size) (x : Obj) (k : Nat) : (h.setIfInBounds b x)[k]? = if k = b then some x else h[k]? := by
  by_cases hk : k = b
  · subst hk; rw [if_pos rfl, Array.getElem?_setIfInBounds_self, if_pos hb]
  · rw [if_neg hk, Array.getElem?_setIfInBounds_ne (fun e => hk e.symm)]
theorem HR.turn {gl : Nat → Option (List AV)} (H : HR gl D σ s w) {m : Nat} (hD : D m) (hlt : m < 16000000) {o o' : AObj} (hg : s.get m = some o) (hnc : o.isCells = false) (hnc' : o'.isCells = false) (x : Obj)
    (hmap : ∀ es v, o' = .map es v → ∃ es0 v0, o = .map es0 v0 ∧ v = v0 + 1)
    (hk : objOK σ D { w with heap := w.heap.setIfInBounds (σ m).block x } (s.put m (some o')) m o') (N : Nat) :
    HR gl D σ (s.put m (some o')) { w with heap := w.heap.setIfInBounds (σ m).block x } ∧ Ext N D σ w D σ { w with heap := w.heap.setIfInBounds (σ m).block x } := by
  have hin := H.blk m hD
  have hblk : ∀ n a, D n → n ≠ m → s.get n = some a → (σ n).block ≠ (σ m).block := fun n a hn hne ha hb => by
    rcases H.sep n m hn hD hne _ _ ha hg with h | ⟨_, h, _⟩
    · exact h hb
    · rw [hnc] at h; cases h
  have hheap : ∀ k, ({ w with heap := w.heap.setIfInBounds (σ m).block x } : World).heap[k]? = if k = (σ m).block then some x else w.heap[k]? := set_get hin x
  refine ⟨⟨?_, ?_, H.dom, ?_, ?_⟩, ⟨fun _ h => h, fun _ _ => rfl, by simp, fun b hb hf => ?_, fun _ h => .inl h, rfl, rfl, rfl, fun _ h => .inl h⟩⟩
  · intro n hn a ha
    by_cases hne : n = m
    · subst hne
      rw [St.get_put_same s _ hlt] at ha
      cases ha; exact hk
    · rw [St.get_put_other s _ hne] at ha
      have ho := H.obj n hn a ha
      have hb := hblk n a hn hne ha
      have hh : ({ w with heap := w.heap.setIfInBounds (σ m).block x } : World).heap[(σ n).block]? = w.heap[(σ n).block]? := by rw [hheap, if_neg hb]
      cases a with
      | cells c esz ex fz => simpa only [objOK, hh] using ho
      | map es ver => simpa only [objOK, hh] using ho
      | loop => simpa only [objOK, hh] using ho
      | dfr => simpa only [objOK, hh] using ho
      | iter j ver left last =>
        obtain ⟨hj, hv, h0⟩ := ho
        by_cases hjm : j = m
        · subst hjm
          refine ⟨hj, fun es v he => ?_, fun es he => ?_⟩
          · rw [St.get_put_same s _ hlt] at he
            cases he
            obtain ⟨es0, v0, e0, e1⟩ := hmap es v rfl
            have := hv es0 v0 (by rw [hg, e0])
            omega
          · rw [St.get_put_same s _ hlt] at he
            cases he
            obtain ⟨es0, v0, e0, e1⟩ := hmap es ver rfl
            have := hv es0 v0 (by rw [hg, e0])
            omega
        · refine ⟨hj, fun es v he => hv es v (by rwa [St.get_put_other s _ hjm] at he), fun es he => ?_⟩
          rw [St.get_put_other s _ hjm] at he
          have hbj := hblk j _ hj hjm he
          rw [hh, hheap, if_neg hbj]
          exact h0 es he
  · intro n k hn hk' hnk a b ha hb
    by_cases h1 : n = m
    · subst h1
      rw [St.get_put_other s _ (Ne.symm hnk)] at hb
      exact .inl (hblk k b hk' (Ne.symm hnk) hb).symm
    · rw [St.get_put_other s _ h1] at ha
      by_cases h2 : k = m
      · subst h2; exact .inl (hblk n a hn h1 ha)
      · rw [St.get_put_other s _ h2] at hb
        exact H.sep n k hn hk' hnk a b ha hb
  · intro n hn; have := H.blk n hn; simpa using this
  · intro g c hgg
    obtain ⟨⟨C, e, f, h1, h2⟩, h3⟩ := H.glob g c hgg
    exact ⟨⟨C, e, f, by rw [hheap, if_neg (fun h => h3 m hD h.symm)]; exact h1, h2⟩, h3⟩
  · rw [hheap, if_neg (fun h => hf m hD h.symm)]
def evRep (k : List UInt8) (v : AV) : List (List UInt8 × AV) → List (List UInt8 × AV)
  | [] => []
  | p :: r => match beqB p.1 k with
    | true => (k, v) :: r
    | false => p :: evRep k v r
def lessB : List UInt8 → List UInt8 → Bool
  | [], _ :: _ => true
  | a :: as, b :: bs => match Nat.blt a.toNat b.toNat with
    | true => true
    | false => match Nat.beq a.toNat b.toNat with
      | true => lessB as bs
      | false => false
  | _, _ => false
def evIns (k : List UInt8) (v : AV) : List (List UInt8 × AV) → List (List UInt8 × AV)
  | [] => [(k, v)]
  | p :: r => match lessB k p.1 with
    | true => (k, v) :: p :: r
    | false => p :: evIns k v r
theorem evIns_perm (k : List UInt8) (v : AV) : ∀ es, (evIns k v es).Perm ((k, v) :: es)
  | [] => .refl _
  | p :: r => by
    simp only [evIns]
    split
    · exact .refl _
    · exact ((evIns_perm k v r).cons p).trans (.swap _ _ _)
theorem evRep_split {k : List UInt8} {v0 : AV} (v : AV) : ∀ {es : List (List UInt8 × AV)}, evFind k es = some v0 → ∃ e1 e2, es = e1 ++ (k, v0) :: e2 ∧ evRep k v es = e1 ++ (k, v) :: e2
  | [], h => by cases h
  | p :: r, h => by
    simp only [evFind] at h
    simp only [evRep]
    split at h
    · rename_i hb
      cases h
      have hk := beqB_iff.1 hb
      exact ⟨[], r, by rw [← hk]; rfl, rfl⟩
    · rename_i hb
      obtain ⟨e1, e2, h1, h2⟩ := evRep_split v h
      exact ⟨p :: e1, e2, by rw [h1]; rfl, by simp only [h2]; rfl⟩
def evSetMap (k : List UInt8) (v : AV) (es : List (List UInt8 × AV)) : List (List UInt8 × AV) :=
  match evFind k es with
  | some _ => evRep k v es
  | none => evIns k v es
def evMapUpdate (T : Tbl) (s : St) (t : Nat) (m k x : AV) : Option St :=
  match T.ti t with
  | some (_, .map key _) => match T.ti key, m, k with
    | some (_, .string), .map m, .str k => match s.get m with
      | some (.map es ver) => match Nat.blt m 16000000 with
        | true => some (s.put m (some (.map (evSetMap k x es) (ver + 1))))
        | false => none
      | _ => none
    | _, _, _ => none
  | _ => none
theorem rowsOf_perm {es es' : List (List UInt8 × AV)} (h : es.Perm es') : (rowsOf σ es).Perm (rowsOf σ es') := h.map _
theorem modify_split {es : Array MapEntry} {j : Nat} {e : MapEntry} (hj : es[j]? = some e) (f : MapEntry → MapEntry) :
    es.toList = es.toList.take j ++ e :: es.toList.drop (j + 1) ∧ (es.modify j f).toList = es.toList.take j ++ f e :: es.toList.drop (j + 1) := by
  have hlt : j < es.size := (Array.getElem?_eq_some_iff.1 hj).1
  have he : es[j] = e := (Array.getElem?_eq_some_iff.1 hj).2
  constructor
  · conv => lhs; rw [← List.take_append_drop j es.toList]
    congr 1
    rw [List.drop_eq_getElem_cons (by simpa using hlt)]
    simp [he]
  · apply List.ext_getElem?
    intro i
    simp only [Array.getElem?_toList, Array.getElem?_modify]
    by_cases hij : j = i
    · subst hij
      rw [if_pos rfl, hj, List.getElem?_append_right (by simp; omega)]
      simp [Nat.min_eq_left (Nat.le_of_lt hlt)]
    · rw [if_neg hij]
      rcases Nat.lt_or_ge i j with h | h
      · rw [List.getElem?_append_left (by simp; omega), List.getElem?_take_of_lt h, Array.getElem?_toList]
      · rw [List.getElem?_append_right (by simp; omega)]
        simp only [List.length_take, Array.length_toList, Nat.min_eq_left (Nat.le_of_lt hlt)]
        rw [show i - j = (i - j - 1) + 1 by omega, List.getElem?_cons_succ, List.getElem?_drop, Array.getElem?_toList]
        congr 1; omega
theorem evMapUpdate_sim (hT : TblOK P T) (H : HR T.gl D σ s w) {t : Nat} {m k x : AV} {s' : St} (hm : m.cl D) (hx : x.cl D) (h : evMapUpdate T s t m k x = some s') :
    SimU P T.gl s.next D σ w (Instr.mapUpdate t (conc σ m) (conc σ k) (conc σ x)) s' := by
  unfold evMapUpdate at h
  split at h
  case h_2 => cases h
  rename_i i key elem ht
  split at h
  case h_2 => cases h
  rename_i ik m k hkt
  split at h
  case h_2 => cases h
  rename_i es ver hg
  split at h
  case h_2 => cases h
  rename_i hlt
  have hlt : m < 16000000 := by simpa [Nat.blt_eq] using hlt
  cases h
  have hD : D m := by simpa [AV.cl] using hm
  have ut := (hT.ti _ _ _ ht).2
  have uk := (hT.ti _ _ _ hkt).2
  obtain ⟨ents, clock, h1, h2, h3, h4, h5, h6⟩ := H.obj m hD _ hg
  have hin := H.blk m hD
  unfold evSetMap
  split
  · rename_i v0 hf
    obtain ⟨j, e, f1, f2, f3, f4⟩ := find_some h2 h3 hf
    obtain ⟨e1, e2, g1, g2⟩ := evRep_split x hf
    obtain ⟨m1, m2⟩ := modify_split f2 (fun e => { e with key := .string ⟨k.toArray⟩, val := conc σ x })
    obtain ⟨k1, k2⟩ := H.turn (o' := .map (evRep k x es) (ver + 1)) hD hlt hg rfl rfl
      (.map (ents.modify j fun e => { e with key := .string ⟨k.toArray⟩, val := conc σ x }) clock) (fun es' v' e' => by cases e'; exact ⟨es, ver, rfl, rfl⟩) (by
        refine ⟨_, clock, by show (w.heap.setIfInBounds _ _)[_]? = _; rw [set_get hin, if_pos rfl], ?_, ?_, ?_, ?_, ?_⟩
        · rw [m2, g2]
          rw [m1, g1] at h2
          simp only [rowsIn, rowsOf, List.map_append, List.map_cons] at h2 ⊢
          rw [f3, f4] at h2
          exact (List.perm_middle.trans ((List.perm_cons _).2 (((List.perm_cons _).1 (List.perm_middle.symm.trans (h2.trans List.perm_middle)))))).trans List.perm_middle.symm
        · rw [g2]; rw [g1] at h3; simpa using h3
        · rw [g2]
          intro p hp
          rcases List.mem_append.1 hp with hp | hp
          · exact h4 p (by rw [g1]; exact List.mem_append_left _ hp)
          · rcases List.mem_cons.1 hp with rfl | hp
            · exact hx
            · exact h4 p (by rw [g1]; exact List.mem_append_right _ (.tail _ hp))
        · rw [m2]
          intro y hy
          rcases List.mem_append.1 hy with hy | hy
          · exact h5 y (by rw [m1]; exact List.mem_append_left _ hy)
          · rcases List.mem_cons.1 hy with rfl | hy
            · exact h5 e (by rw [m1]; exact List.mem_append_right _ (.head _))
            · exact h5 y (by rw [m1]; exact List.mem_append_right _ (.tail _ hy))
        · rw [m2]; rw [m1] at h6; simpa using h6) s.next
    refine ⟨D, σ, _, ?_, k1, k2, Nat.le_refl _⟩
    simp only [Instr.mapUpdate, Sem.run_bind, run_underlying ut, Result.andThen_ok, conc, MapKept.run_getObj_map h1, MapKept.run_checkKey uk (isKey _) false 9999, MapKept.run_findKey uk f1, f2, Option.map_some, Option.getD_some, f3,
      MapKept.run_keyThatStays (isKey _), MapKept.run_setObj_map _ h1]
  · rename_i hf
    obtain ⟨f1, f2⟩ := find_none h2 hf
    obtain ⟨q1, q2, _⟩ := stamped_push (es := ents) (clock := clock) (key := .string ⟨k.toArray⟩) (val := conc σ x) ⟨h5, h6, by
      have : (ents.toList.map (·.key)).Perm (es.map fun p => (Value.string ⟨p.1.toArray⟩)) := by
        have := h2.map (·.1)
        simpa [rowsIn, rowsOf, Function.comp_def] using this
      rw [this.nodup_iff]
      have e : (es.map fun p => (Value.string ⟨p.1.toArray⟩)) = (es.map (·.1)).map fun l => Value.string ⟨l.toArray⟩ := by simp
      rw [e]
      exact List.pairwise_map.2 (List.Pairwise.imp (fun hne heq => hne (str_inj heq)) h3)⟩ f2
    have hpm := evIns_perm k x es
    obtain ⟨k1, k2⟩ := H.turn (o' := .map (evIns k x es) (ver + 1)) hD hlt hg rfl rfl
      (.map (ents.push { key := .string ⟨k.toArray⟩, val := conc σ x, born := clock }) (clock + 1)) (fun es' v' e' => by cases e'; exact ⟨es, ver, rfl, rfl⟩) (by
        refine ⟨_, clock + 1, by show (w.heap.setIfInBounds _ _)[_]? = _; rw [set_get hin, if_pos rfl], ?_, ?_, ?_, q1, q2⟩
        · refine List.Perm.trans ?_ (rowsOf_perm hpm).symm
          simp only [rowsIn, rowsOf, Array.toList_push, List.map_append, List.map_cons, List.map_nil]
          refine (List.perm_append_comm).trans ?_
          exact (List.perm_cons _).2 h2
        · rw [(hpm.map _).nodup_iff]
          simp only [List.map_cons, List.nodup_cons]
          exact ⟨fun hm => by obtain ⟨p, hp, e⟩ := List.mem_map.1 hm; exact evFind_none hf p hp e, h3⟩
        · intro p hp
          rcases List.mem_cons.1 (hpm.mem_iff.1 hp) with rfl | hp
          · exact hx
          · exact h4 p hp) s.next
    refine ⟨D, σ, _, ?_, k1, k2, Nat.le_refl _⟩
    simp only [Instr.mapUpdate, Sem.run_bind, run_underlying ut, Result.andThen_ok, conc, MapKept.run_getObj_map h1, MapKept.run_checkKey uk (isKey _) false 9999, MapKept.run_findKey uk f1, MapKept.run_setObj_map _ h1]
def evMakeMap (s : St) : Option (AV × St) := if s.room then some (.map s.next, s.new (.map [] 0)) else none
theorem evMakeMap_sim (H : HR T.gl D σ s w) {t : Nat} {v : AV} {s' : St} (h : evMakeMap s = some (v, s')) : Sim P T.gl s.next D σ w (Instr.makeMap t none) v s' := by
  unfold evMakeMap at h
  split at h
  case isFalse => cases h
  rename_i hr
  cases h
  obtain ⟨k1, k2⟩ := H.add (w' := { w with heap := w.heap.push (.map #[] 0) }) (room_lt hr) (by show _ < (w.heap.push _).size; simp) (fun b hb => by show (w.heap.push _)[b]? = _; rw [Array.getElem?_push, if_neg (by omega)]) rfl rfl rfl
    (.map [] 0) ⟨w.heap.size, 0, 0⟩ rfl ⟨#[], 0, by rw [upd_same]; show (w.heap.push _)[w.heap.size]? = _; simp, by simp [rowsIn, rowsOf], by simp, by simp, by simp, by simp⟩
  exact ⟨_, _, _, by simp [Instr.makeMap, conc, upd_same], k1, k2, .inr rfl, Nat.le_succ _⟩
theorem evMakeMap_sim' (hT : TblOK P T) (H : HR T.gl D σ s w) {t : Nat} {i : TypeInfo} {a b : TypeId} (ht : T.ti t = some (i, .map a b)) {k : IntKind} {n : Int} {v : AV} {s' : St} (h : evMakeMap s = some (v, s')) :
    Sim P T.gl s.next D σ w (Instr.makeMap t (some (.int k n))) v s' := by
  obtain ⟨D', σ', w', k1, k2, k3, k4⟩ := evMakeMap_sim (P := P) (t := t) H h
  refine ⟨D', σ', w', ?_, k2, k3, k4⟩
  rw [← k1]
  simp [Instr.makeMap, run_underlying (hT.ti _ _ _ ht).2, asInt, asIntOf]
def evClear (T : Tbl) (s : St) (tys : List Nat) (x : AV) : Option (AV × St) :=
  match tys with
  | t :: _ => match T.ti t, x with
    | some _, .map m => match s.get m with
      | some (.map _ ver) => match Nat.blt m 16000000 with
        | true => some (.tuple [], s.put m (some (.map [] (ver + 1))))
        | false => none
      | _ => none
    | _, _ => none
  | [] => none
theorem evClear_sim (hT : TblOK P T) (H : HR T.gl D σ s w) {tys : List Nat} {ty : TypeId} {x v : AV} {s' : St} (hx : x.cl D) (h : evClear T s tys x = some (v, s')) :
    Sim P T.gl s.next D σ w (Builtin.clear_ tys.toArray ty #[conc σ x]) v s' := by
  unfold evClear at h
  split at h
  case h_2 => cases h
  rename_i t rest
  split at h
  case h_2 => cases h
  rename_i y m ht
  obtain ⟨i, d⟩ := y
  split at h
  case h_2 => cases h
  rename_i es ver hg
  split at h
  case h_2 => cases h
  rename_i hlt
  have hlt : m < 16000000 := by simpa [Nat.blt_eq] using hlt
  cases h
  have hD : D m := by simpa [AV.cl] using hx
  obtain ⟨ents, clock, h1, _⟩ := H.obj m hD _ hg
  obtain ⟨k1, k2⟩ := H.turn (o' := .map [] (ver + 1)) hD hlt hg rfl rfl (.map #[] clock) (fun es' v' e' => by cases e'; exact ⟨es, ver, rfl, rfl⟩)
    ⟨#[], clock, by show (w.heap.setIfInBounds _ _)[_]? = _; rw [set_get (H.blk m hD), if_pos rfl], by simp [rowsIn, rowsOf], by simp, by simp, by simp, by simp⟩ s.next
  refine ⟨D, σ, _, ?_, k1, k2, by simp [AV.cl, cls], Nat.le_refl _⟩
  simp only [Builtin.clear_, List.getElem?_toArray, List.getElem?_cons_zero, Sem.run_bind, run_underlying (hT.ti _ _ _ ht).2, Result.andThen_ok, conc]
  cases d <;> simp [MapKept.run_getObj_map h1, MapKept.run_setObj_map _ h1, conc, concs]
end
end
end Go.Ai
end
section
namespace Go.Ai
noncomputable section
open MapKept
section
variable {P : Program} {T : Tbl} {D : Nat → Prop} {σ : Nat → Loc} {s : St} {w : World}
def evRange (T : Tbl) (s : St) (t : Nat) (x : AV) : Option (AV × St) :=
  match T.ti t, x with
  | some (_, .map _ _), .map m => match s.get m with
    | some (.map es ver) => if s.room then some (.it s.next, s.new (.iter m ver es none)) else none
    | _ => none
  | _, _ => none
theorem evRange_sim (hT : TblOK P T) (H : HR T.gl D σ s w) {t : Nat} {x v : AV} {s' : St} (hx : x.cl D) (h : evRange T s t x = some (v, s')) :
    Sim P T.gl s.next D σ w (Instr.range t (conc σ x)) v s' := by
  unfold evRange at h
  split at h
  case h_2 => cases h
  rename_i i a b m ht
  split at h
  case h_2 => cases h
  rename_i es ver hg
  split at h
  case isFalse => cases h
  rename_i hr
  cases h
  have hr := room_lt hr
  have hD : D m := by simpa [AV.cl] using hx
  have hfr := H.fresh hD
  obtain ⟨ents, clock, h1, h2, h3, h4, h5, h6⟩ := H.obj m hD _ hg
  have hin := H.blk m hD
  have hgm : (s.new (.iter m ver es none)).get m = some (.map es ver) := by rw [St.get_new_other s _ hfr]; exact hg
  have hcl : ∀ p ∈ es, conc (upd σ s.next ⟨w.heap.size, 0, 0⟩) p.2 = conc σ p.2 := fun p hp => conc_upd H _ (h4 p hp)
  have hrows : rowsOf (upd σ s.next ⟨w.heap.size, 0, 0⟩) es = rowsOf σ es := by
    unfold rowsOf
    exact List.map_congr_left fun p hp => by rw [hcl p hp]
  obtain ⟨k1, k2⟩ := H.add (w' := { w with heap := w.heap.push (.mapIter (some (σ m).block) clock #[] clock) }) hr (by show _ < (w.heap.push _).size; simp)
    (fun b hb => by show (w.heap.push _)[b]? = _; rw [Array.getElem?_push, if_neg (by omega)]) rfl rfl rfl (.iter m ver es none) ⟨w.heap.size, 0, 0⟩ rfl (by
      refine ⟨.inl hD, fun es' v' he => ?_, fun es' he => ?_⟩
      · rw [hgm] at he; cases he; exact Nat.le_refl _
      · rw [hgm] at he
        cases he
        refine ⟨ents, clock, #[], clock, ?_, ?_, rfl, ?_, fun p hp => AV.cl_more _ (h4 p hp), by simp⟩
        · rw [upd_same, upd_other _ _ _ hfr]; show (w.heap.push _)[w.heap.size]? = _; simp
        · rw [upd_other _ _ _ hfr]; show (w.heap.push _)[(σ m).block]? = _; rw [Array.getElem?_push, if_neg (by omega)]; exact h1
        · rw [hrows]
          have : ents.toList.filter (fun e => !(#[] : Array Nat).contains e.born) = ents.toList := by
            apply List.filter_eq_self.2; intro a _; simp
          rw [this]; exact h2)
  refine ⟨_, _, _, ?_, k1, k2, .inr rfl, Nat.le_succ _⟩
  simp only [Instr.range, Sem.run_bind, run_underlying (hT.ti _ _ _ ht).2, Result.andThen_ok, conc, MapKept.run_getObj_map h1, Sem.run_pure, run_newObj, upd_same]
def picks {α : Type} : List α → List (α × List α)
  | [] => []
  | a :: r => (a, r) :: (picks r).map fun q => (q.1, a :: q.2)
theorem picks_mem {α : Type} : ∀ {l : List α} {a : α}, a ∈ l → ∃ r, (a, r) ∈ picks l ∧ l.Perm (a :: r)
  | [], _, h => by cases h
  | b :: l, a, h => by
    rcases List.mem_cons.1 h with rfl | h
    · exact ⟨l, .head _, .refl _⟩
    · obtain ⟨r, h1, h2⟩ := picks_mem h
      exact ⟨b :: r, .tail _ (List.mem_map.2 ⟨_, h1, rfl⟩), ((List.perm_cons b).2 h2).trans (.swap _ _ _)⟩
def SimL (P : Program) (gl : Nat → Option (List AV)) (N : Nat) (D : Nat → Prop) (σ : Nat → Loc) (w : World) (m : Sem Value) (l : List (AV × St)) : Prop :=
  ∃ o ∈ l, ∃ D' σ' w', m.run P w = .ok (conc σ' o.1) w' ∧ HR gl D' σ' o.2 w' ∧ Ext N D σ w D' σ' w' ∧ o.1.cl D' ∧ N ≤ o.2.next
def evNext (s : St) (it : AV) : Option (List (AV × St)) :=
  match it with
  | .it n => match s.get n with
    | some (.iter m ver left _) => match s.get m with
      | some (.map _ ver') => match Nat.beq ver ver' && Nat.blt n 16000000 with
        | true => match left with
          | [] => some [(.tuple [.bool false], s.put n none)]
          | _ => some ((picks left).map fun q => (.tuple [.bool true, .str q.1.1, q.1.2], s.put n (some (.iter m ver q.2 (some q.1)))))
        | false => none
      | _ => none
    | _ => none
  | _ => none
theorem filter_seen {l : List MapEntry} (hn : (l.map (·.born)).Nodup) {seen : Array Nat} {e : MapEntry} (he : e ∈ l.filter fun x => !seen.contains x.born) :
    (l.filter fun x => !seen.contains x.born).Perm (e :: l.filter fun x => !(seen.push e.born).contains x.born) := by
  induction l with
  | nil => simp at he
  | cons a l ih =>
    simp only [List.map_cons, List.nodup_cons] at hn
    have hpush : ∀ x : MapEntry, (seen.push e.born).contains x.born = (seen.contains x.born || (x.born == e.born)) := fun x => by rw [Bool.eq_iff_iff]; simp [or_comm]
    by_cases ha : seen.contains a.born = true
    · have h1 : (!seen.contains a.born) = false := by rw [ha]; rfl
      have h2 : (!(seen.push e.born).contains a.born) = false := by rw [hpush, ha]; rfl
      rw [List.filter_cons, h1] at he
      rw [List.filter_cons, h1, List.filter_cons, h2]
      exact ih hn.2 he
    · have h1 : (!seen.contains a.born) = true := by simpa using ha
      rw [List.filter_cons, h1, if_pos rfl] at he
      rw [List.filter_cons, h1, if_pos rfl]
      rcases List.mem_cons.1 he with rfl | he
      · refine (List.perm_cons _).2 ?_
        have h2 : (!(seen.push e.born).contains e.born) = false := by rw [hpush]; simp
        rw [List.filter_cons, h2]
        have : l.filter (fun x => !seen.contains x.born) = l.filter fun x => !(seen.push e.born).contains x.born := by
          apply List.filter_congr
          intro x hx
          have hne : (x.born == e.born) = false := by
            simp only [beq_eq_false_iff_ne, ne_eq]
            exact fun h => hn.1 (List.mem_map.2 ⟨x, hx, h⟩)
          rw [hpush, hne, Bool.or_false]
        simp only [Bool.false_eq_true, if_false]
        rw [this]
      · have hel : e ∈ l := (List.mem_filter.1 he).1
        have hne : (a.born == e.born) = false := by
          simp only [beq_eq_false_iff_ne, ne_eq]
          exact fun h => hn.1 (List.mem_map.2 ⟨e, hel, h.symm⟩)
        have h2 : (!(seen.push e.born).contains a.born) = true := by rw [hpush, hne, Bool.or_false]; exact h1
        rw [List.filter_cons, h2, if_pos rfl]
        exact ((List.perm_cons _).2 (ih hn.2 he)).trans (.swap _ _ _)
theorem evNext_sim (H : HR T.gl D σ s w) {it : AV} {l : List (AV × St)} (hx : it.cl D) (h : evNext s it = some l) (ty : TypeId) :
    SimL P T.gl s.next D σ w (Instr.next (conc σ it) false ty) l := by
  unfold evNext at h
  split at h
  case h_2 => cases h
  rename_i n
  split at h
  case h_2 => cases h
  rename_i m ver left last hg
  split at h
  case h_2 => cases h
  rename_i es ver' hgm
  split at h
  case h_2 => cases h
  rename_i hc
  simp only [Bool.and_eq_true, Nat.beq_eq, Nat.blt_eq] at hc
  obtain ⟨rfl, hlt⟩ := hc
  have hD : D n := by simpa [AV.cl] using hx
  obtain ⟨hDm, hv, h0⟩ := H.obj n hD _ hg
  obtain ⟨ents, clock, seen, stepped, h1, h2, h3, h4, h5, h6⟩ := h0 es hgm
  subst h3
  obtain ⟨ents', clock', g1, g2, g3, g4, g5, g6⟩ := H.obj m hDm _ hgm
  rw [h2] at g1
  cases g1
  have hget : (getObj (σ n).block).run P w = .ok (.mapIter (some (σ m).block) stepped seen stepped) w := by simp [getObj, Sem.run, h1]
  have hgetm : (getObj (σ m).block).run P w = .ok (.map ents stepped) w := MapKept.run_getObj_map h2
  have hcond : (!seen.isEmpty && !ents.isEmpty && ents.all (fun x => decide (x.born ≥ stepped))) = false := by
    by_cases he : ents.isEmpty = true
    · simp [he]
    · have : ents.all (fun x => decide (x.born ≥ stepped)) = false := by
        rw [Bool.eq_false_iff]
        intro hall
        rw [Array.all_eq_true'] at hall
        have hpos : 0 < ents.size := by
          rcases Nat.eq_zero_or_pos ents.size with h | h
          · exact absurd (by simpa using h) he
          · exact h
        have hm : ents[0] ∈ ents := Array.getElem_mem hpos
        have a1 := hall _ hm
        have a2 := g5 _ (Array.mem_toList_iff.2 hm)
        simp at a1; omega
      simp [this]
  have hold : ((ents.filter fun e => !seen.contains e.born).filter fun x => decide (x.born < stepped)) = ents.filter fun e => !seen.contains e.born := by
    rw [Array.filter_eq_self]
    intro x hx
    have := g5 x (Array.mem_toList_iff.2 (Array.mem_filter.1 hx).1)
    simpa using this
  have hnew : ((ents.filter fun e => !seen.contains e.born).filter fun x => decide (x.born ≥ stepped)) = #[] := by
    rw [Array.filter_eq_empty_iff]
    intro x hx
    have := g5 x (Array.mem_toList_iff.2 (Array.mem_filter.1 hx).1)
    simp; omega
  have hfl : (ents.filter fun e => !seen.contains e.born).toList = ents.toList.filter fun e => !seen.contains e.born := by rw [Array.toList_filter]
  have hleft : left.length = (ents.filter fun e => !seen.contains e.born).size := by
    have := h4.length_eq
    simp only [rowsIn, rowsOf, List.length_map] at this
    rw [← this, ← hfl, Array.length_toList]
  split at h
  · -- nothing left
    cases h
    have he : (ents.filter fun e => !seen.contains e.born) = #[] := by
      apply Array.eq_empty_of_size_eq_zero; rw [← hleft]; rfl
    refine ⟨_, .head _, D, σ, w, ?_, H.kill hlt, Ext.refl _ _ _ _, by simp [AV.cl, cls], Nat.le_refl _⟩
    simp only [Instr.next, conc, Sem.run_bind, hget, Result.andThen_ok, hgetm, hcond, Bool.false_eq_true, if_false, he]
    simp [run_choose, Question.forced, concs, conc]
  · rename_i hne
    cases h
    have hnz : left ≠ [] := fun e => hne e
    have hpos : 0 < (ents.filter fun e => !seen.contains e.born).size := by
      rw [← hleft]; exact List.length_pos_iff.2 hnz
    generalize hA : (ents.filter fun e => !seen.contains e.born) = A at *
    have hcand : ((if A.isEmpty then #[none] else #[]) ++ (A ++ (#[] : Array MapEntry)).map some) = A.map some := by
      have : A.isEmpty = false := by
        rw [Bool.eq_false_iff]; intro h; have := Array.isEmpty_iff_size_eq_zero.1 h; omega
      simp [this]
    obtain ⟨i, w1, hi, hch, hw1⟩ : ∃ i w1, i < A.size ∧ (choose (.mapNext A.size)).run P w = .ok i w1 ∧ (w1 = w ∨ w1 = { w with drawn := w.drawn + 1 }) := by
      rw [run_choose]
      split
      · exact ⟨0, w, hpos, rfl, .inl rfl⟩
      · refine ⟨_, _, ?_, rfl, .inr rfl⟩
        simp only [Question.cut]
        exact Nat.mod_lt _ hpos
    have hAi : A[i]? = some A[i] := by simp [hi]
    have hmemA : A[i] ∈ ents.toList.filter fun e => !seen.contains e.born := by
      rw [← hfl]; exact Array.mem_toList_iff.2 (Array.getElem_mem hi)
    generalize hE : A[i] = e at *
    have heents : e ∈ ents.toList := (List.mem_filter.1 hmemA).1
    obtain ⟨p, hpl, hp1, hp2⟩ := row_of_entry h4 hmemA
    obtain ⟨r, hr1, hr2⟩ := picks_mem hpl
    have H1 : HR T.gl D σ s w1 ∧ Ext s.next D σ w D σ w1 ∧ w1.heap = w.heap := by
      rcases hw1 with rfl | rfl
      · exact ⟨H, Ext.refl _ _ _ _, rfl⟩
      · exact ⟨H.drew, Ext.drewn _ _ _ _, rfl⟩
    obtain ⟨H1, E1, hw1h⟩ := H1
    have hnm : n ≠ m := fun e => by subst e; rw [hg] at hgm; cases hgm
    obtain ⟨k1, k2⟩ := H1.turn (o' := .iter m ver r (some p)) hD hlt hg rfl rfl (.mapIter (some (σ m).block) stepped (seen.push e.born) stepped) (fun es' v' e' => by cases e') (by
      have hbne : (σ m).block ≠ (σ n).block := by
        rcases H.sep m n hDm hD (Ne.symm hnm) _ _ hgm hg with h | ⟨h, _⟩
        · exact h
        · simp [AObj.isCells] at h
      refine ⟨hDm, fun es' v' he => ?_, fun es' he => ?_⟩
      · rw [St.get_put_other s _ (Ne.symm hnm), hgm] at he; cases he; exact Nat.le_refl _
      · rw [St.get_put_other s _ (Ne.symm hnm), hgm] at he
        cases he
        have hin : (σ n).block < w1.heap.size := H1.blk n hD
        refine ⟨ents, stepped, seen.push e.born, stepped, ?_, ?_, rfl, ?_, fun q hq => h5 q (hr2.mem_iff.2 (.tail _ hq)), ?_⟩
        · show (w1.heap.setIfInBounds _ _)[_]? = _; rw [set_get hin, if_pos rfl]
        · show (w1.heap.setIfInBounds _ _)[_]? = _; rw [set_get hin, if_neg hbne, hw1h]; exact h2
        · have f1 := filter_seen g6 hmemA
          have f2 := (f1.map fun x : MapEntry => (x.key, x.val)).symm.trans (h4.trans (rowsOf_perm hr2))
          simp only [List.map_cons, rowsOf, hp1, hp2] at f2
          exact (List.perm_cons _).1 f2
        · intro q hq
          cases hq
          exact ⟨e, heents, by simp, hp1, hp2, h5 p hpl⟩) s.next
    refine ⟨_, List.mem_map.2 ⟨_, hr1, rfl⟩, D, σ, _, ?_, k1, E1.trans k2 (Nat.le_refl _), ?_, Nat.le_refl _⟩
    · have hset : (setObj (σ n).block (.mapIter (some (σ m).block) stepped (seen.push e.born) stepped)).run P w1 = .ok () { w1 with heap := w1.heap.setIfInBounds (σ n).block (.mapIter (some (σ m).block) stepped (seen.push e.born) stepped) } := by
        simp [setObj, Sem.run, hw1h, h1]
      simp only [Instr.next, conc, Sem.run_bind, hget, Result.andThen_ok, hgetm, hcond, Bool.false_eq_true, if_false, hA, hold, hnew, hcand, Array.size_map, hch, Array.getElem?_map, hAi, Option.map_some, hset, Sem.run_pure, hp1, hp2]
      simp [concs, conc]
    · simp [AV.cl, cls, h5 p hpl]
def evEntry (s : St) (it : AV) : Option AV :=
  match it with
  | .it n => match s.get n with
    | some (.iter m ver _ (some p)) => match s.get m with
      | some (.map _ ver') => match Nat.beq ver ver' with
        | true => some (.tuple [.str p.1, p.2])
        | false => none
      | _ => none
    | _ => none
  | _ => none
theorem find_born : ∀ {l : List MapEntry}, (l.map (·.born)).Nodup → ∀ {e : MapEntry}, e ∈ l → l.find? (fun x => x.born == e.born) = some e
  | [], _, _, h => by cases h
  | a :: l, hn, e, h => by
    simp only [List.map_cons, List.nodup_cons] at hn
    rcases List.mem_cons.1 h with rfl | h
    · simp
    · have : (a.born == e.born) = false := by
        simp only [beq_eq_false_iff_ne, ne_eq]
        exact fun q => hn.1 (List.mem_map.2 ⟨e, h, q.symm⟩)
      rw [List.find?_cons, this]
      exact find_born hn.2 h
theorem evEntry_sim (H : HR T.gl D σ s w) {it v : AV} (hx : it.cl D) (h : evEntry s it = some v) : Sim P T.gl s.next D σ w (Instr.entry (conc σ it)) v s := by
  unfold evEntry at h
  split at h
  case h_2 => cases h
  rename_i n
  split at h
  case h_2 => cases h
  rename_i m ver left p hg
  split at h
  case h_2 => cases h
  rename_i es ver' hgm
  split at h
  case h_2 => cases h
  rename_i hc
  have hc := Nat.eq_of_beq_eq_true hc
  subst hc
  cases h
  have hD : D n := by simpa [AV.cl] using hx
  obtain ⟨hDm, hv, h0⟩ := H.obj n hD _ hg
  obtain ⟨ents, clock, seen, stepped, h1, h2, h3, h4, h5, h6⟩ := h0 es hgm
  subst h3
  obtain ⟨ents', clock', g1, g2, g3, g4, g5, g6⟩ := H.obj m hDm _ hgm
  rw [h2] at g1
  cases g1
  obtain ⟨e, e1, e2, e3, e4, e5⟩ := h6 p rfl
  refine Sim.pure H ?_ (by simp [AV.cl, cls, e5])
  have hget : (getObj (σ n).block).run P w = .ok (.mapIter (some (σ m).block) stepped seen stepped) w := by simp [getObj, Sem.run, h1]
  have hfind : ents.find? (fun x => x.born == e.born) = some e := by
    rw [← Array.find?_toList]; exact find_born g6 e1
  simp only [Instr.entry, conc, Sem.run_bind, hget, Result.andThen_ok, e2, MapKept.run_getObj_map h2, bne_self_eq_false, Bool.false_eq_true, if_false, hfind, Sem.run_pure, e3, e4]
  simp [concs, conc]
def evTypeAssert (T : Tbl) (x : AV) (asserted : Nat) (ok : Bool) : Option AV :=
  match T.ti asserted with
  | some (_, .interface _) => none
  | some _ => match x with
    | .iface t v => match Nat.beq t asserted with
      | true => some (if ok then .tuple [v, .bool true] else v)
      | false => if ok then (zeroV T asserted).map fun z => .tuple [z, .bool false] else none
    | .nilIface => if ok then (zeroV T asserted).map fun z => .tuple [z, .bool false] else none
    | _ => none
  | none => none
theorem evTypeAssert_sim (hT : TblOK P T) (H : HR T.gl D σ s w) {x v : AV} {xt asserted : Nat} {ok : Bool} (hx : x.cl D) (h : evTypeAssert T x asserted ok = some v) :
    Sim P T.gl s.next D σ w (Instr.typeAssert (conc σ x) xt asserted ok) v s := by
  unfold evTypeAssert at h
  split at h
  · cases h
  case h_3 => cases h
  rename_i y hni ht
  obtain ⟨i, d⟩ := y
  have ut := (hT.ti _ _ _ ht).2
  have hni : ∀ ms, d ≠ .interface ms := fun ms e => hni i ms (by rw [e])
  split at h
  · rename_i t u
    split at h
    · rename_i hb
      have hb := Nat.eq_of_beq_eq_true hb
      subst hb
      cases h
      refine Sim.pure H ?_ ?_
      · simp only [Instr.typeAssert, Sem.run_bind, run_underlying ut, Result.andThen_ok, conc]
        cases d <;> first | (exact absurd rfl (hni _)) | (cases ok <;> simp [conc, concs])
      · have hx' : u.cl D := by simpa [AV.cl] using hx
        cases ok <;> simp [AV.cl, cls, hx']
    · rename_i hb
      have hb := Nat.ne_of_beq_eq_false hb
      cases ok with
      | false => simp at h
      | true =>
        simp only [if_true] at h
        cases hz : zeroV T asserted with
        | none => simp [hz] at h
        | some z =>
          simp only [hz, Option.map_some, Option.some.injEq] at h
          subst h
          obtain ⟨z1, z2⟩ := zeroV_run (P := P) (σ := σ) (D := D) (w := w) hT hz
          refine Sim.pure H ?_ (by simp [AV.cl, cls, z2])
          simp only [Instr.typeAssert, Sem.run_bind, run_underlying ut, Result.andThen_ok, conc]
          cases d <;> first | (exact absurd rfl (hni _)) | simp [hb, z1, conc, concs]
  · cases ok with
    | false => simp at h
    | true =>
      simp only [if_true] at h
      cases hz : zeroV T asserted with
      | none => simp [hz] at h
      | some z =>
        simp only [hz, Option.map_some, Option.some.injEq] at h
        subst h
        obtain ⟨z1, z2⟩ := zeroV_run (P := P) (σ := σ) (D := D) (w := w) hT hz
        refine Sim.pure H ?_ (by simp [AV.cl, cls, z2])
        simp only [Instr.typeAssert, Sem.run_bind, run_underlying ut, Result.andThen_ok, conc]
        cases d <;> first | (exact absurd rfl (hni _)) | simp [z1, conc, concs]
  · cases h
end
end
end Go.Ai
end
section
namespace Go.Ai
noncomputable section
inductive ADef where
  | fn (f : FuncId) (cap args : List AV)
  | mark (n : Nat)
def ADef.conc (σ : Nat → Loc) : ADef → Deferred
  | .fn f cap args => { target := .fn (.func f) (concs σ cap).toArray, args := (concs σ args).toArray }
  | .mark n => { target := .collected (σ n).block, args := #[] }
def ADef.cl (D : Nat → Prop) : ADef → Prop
  | .fn _ cap args => cls D cap ∧ cls D args
  | .mark n => D n
def dcl (D : Nat → Prop) (ds : List ADef) : Prop := ∀ d ∈ ds, d.cl D
def dconc (σ : Nat → Loc) (ds : List ADef) : List Deferred := ds.map (ADef.conc σ)
theorem ADef.conc_ext {σ τ : Nat → Loc} {D : Nat → Prop} (h : ∀ n, D n → τ n = σ n) : ∀ d : ADef, d.cl D → d.conc τ = d.conc σ
  | .fn f cap args, hc => by simp only [ADef.conc, concs_ext h cap hc.1, concs_ext h args hc.2]
  | .mark n, hc => by simp only [ADef.conc, h n hc]
theorem dconc_ext {σ τ : Nat → Loc} {D : Nat → Prop} (h : ∀ n, D n → τ n = σ n) {ds : List ADef} (hc : dcl D ds) : dconc τ ds = dconc σ ds :=
  List.map_congr_left fun d hd => ADef.conc_ext h d (hc d hd)
theorem dcl_mono {D D' : Nat → Prop} (h : ∀ n, D n → D' n) {ds : List ADef} (hc : dcl D ds) : dcl D' ds := fun d hd => by
  have := hc d hd
  cases d with
  | fn f cap args => exact ⟨cls_mono h cap this.1, cls_mono h args this.2⟩
  | mark n => exact h n this
inductive OpRes where
  | vals (l : List (AV × St))
  | skip (s : St)
  | defer (d : ADef)
  | enter (f : FuncId) (args : List AV)
  | round (n : Nat) (args : List AV)
def OpOK (P : Program) (gl : Nat → Option (List AV)) (N : Nat) (D : Nat → Prop) (σ : Nat → Loc) (w : World) (m : Sem Next) : OpRes → Prop
  | .vals l => ∃ o ∈ l, ∃ D' σ' w', m.run P w = .ok (.value (conc σ' o.1)) w' ∧ HR gl D' σ' o.2 w' ∧ Ext N D σ w D' σ' w' ∧ o.1.cl D' ∧ N ≤ o.2.next
  | .skip s' => ∃ D' σ' w', m.run P w = .ok .skip w' ∧ HR gl D' σ' s' w' ∧ Ext N D σ w D' σ' w' ∧ N ≤ s'.next
  | .defer d => m.run P w = .ok (.defer (d.conc σ)) w ∧ d.cl D
  | .enter f args => m.run P w = .ok (.enter f (concs σ args).toArray) w ∧ cls D args
  | .round n args => m.run P w = (Instr.yield (σ n).block (concs σ args).toArray).run P w ∧ cls D args ∧ D n
def one (r : Option AV) (s : St) : Option OpRes :=
  match r with
  | some v => some (.vals [(v, s)])
  | none => none
def oneS (r : Option (AV × St)) : Option OpRes :=
  match r with
  | some p => some (.vals [p])
  | none => none
def skipS (r : Option St) : Option OpRes :=
  match r with
  | some s => some (.skip s)
  | none => none
section
variable {P : Program} {T : Tbl} {D : Nat → Prop} {σ : Nat → Loc} {s : St} {w : World}
theorem OpOK.sim {gl : Nat → Option (List AV)} {N : Nat} {m : Sem Value} {v : AV} {s' : St} (h : Sim P gl N D σ w m v s') :
    OpOK P gl N D σ w (do pure (.value (← m))) (.vals [(v, s')]) := by
  obtain ⟨D', σ', w', k1, k2, k3, k4, k5⟩ := h
  exact ⟨_, .head _, D', σ', w', by simp [Sem.run_bind, k1], k2, k3, k4, k5⟩
theorem OpOK.simU {gl : Nat → Option (List AV)} {N : Nat} {m : Sem Unit} {s' : St} (h : SimU P gl N D σ w m s') :
    OpOK P gl N D σ w (do m; pure .skip) (.skip s') := by
  obtain ⟨D', σ', w', k1, k2, k3, k4⟩ := h
  exact ⟨D', σ', w', by simp [Sem.run_bind, k1], k2, k3, k4⟩
theorem OpOK.simL {gl : Nat → Option (List AV)} {N : Nat} {m : Sem Value} {l : List (AV × St)} (h : SimL P gl N D σ w m l) :
    OpOK P gl N D σ w (do pure (.value (← m))) (.vals l) := by
  obtain ⟨o, ho, D', σ', w', k1, k2, k3, k4, k5⟩ := h
  exact ⟨o, ho, D', σ', w', by simp [Sem.run_bind, k1], k2, k3, k4, k5⟩
theorem OpOK.one {gl : Nat → Option (List AV)} {m : Sem Value} {r : Option AV} {q : OpRes} (h : one r s = some q) (hs : ∀ v, r = some v → Sim P gl s.next D σ w m v s) :
    OpOK P gl s.next D σ w (do pure (.value (← m))) q := by
  cases r with
  | none => cases h
  | some v => cases h; exact OpOK.sim (hs v rfl)
theorem OpOK.oneS {gl : Nat → Option (List AV)} {m : Sem Value} {r : Option (AV × St)} {q : OpRes} (h : oneS r = some q) (hs : ∀ v s', r = some (v, s') → Sim P gl s.next D σ w m v s') :
    OpOK P gl s.next D σ w (do pure (.value (← m))) q := by
  cases r with
  | none => cases h
  | some p => cases h; exact OpOK.sim (hs p.1 p.2 rfl)
theorem OpOK.skipS {gl : Nat → Option (List AV)} {m : Sem Unit} {r : Option St} {q : OpRes} (h : skipS r = some q) (hs : ∀ s', r = some s' → SimU P gl s.next D σ w m s') :
    OpOK P gl s.next D σ w (do m; pure .skip) q := by
  cases r with
  | none => cases h
  | some p => cases h; exact OpOK.simU (hs p rfl)
def evOpnds (n : Nat) (ts : Tr AV) : List Operand → Option (List AV)
  | [] => some []
  | x :: xs => match evOperand n ts x, evOpnds n ts xs with
    | some v, some vs => some (v :: vs)
    | _, _ => none
theorem evOpnds_conc {n : Nat} {ts : Tr AV} (hc : tcl D ts) (ds : List Deferred) : ∀ {xs : List Operand} {vs : List AV}, evOpnds n ts xs = some vs →
    xs.map (acts σ n ts ds).eval = concs σ vs ∧ cls D vs
  | [], vs, h => by cases h; exact ⟨rfl, trivial⟩
  | x :: xs, vs, h => by
    simp only [evOpnds] at h
    split at h
    · rename_i v us h1 h2
      cases h
      obtain ⟨e1, c1⟩ := evOperand_conc h1 (σ := σ) hc ds
      obtain ⟨e2, c2⟩ := evOpnds_conc hc ds h2
      exact ⟨by simp [concs, e1, e2], c1, c2⟩
    · cases h
def evParts (n : Nat) (ts : Tr AV) : List (Nat × Operand) → Option (List (Nat × AV))
  | [] => some []
  | (i, x) :: xs => match evOperand n ts x, evParts n ts xs with
    | some v, some vs => some ((i, v) :: vs)
    | _, _ => none
theorem evParts_conc {n : Nat} {ts : Tr AV} (hc : tcl D ts) (ds : List Deferred) : ∀ {xs : List (Nat × Operand)} {vs : List (Nat × AV)}, evParts n ts xs = some vs →
    (xs.map fun p => (p.1, (acts σ n ts ds).eval p.2)) = (vs.map fun p => (p.1, conc σ p.2)) ∧ ∀ p ∈ vs, p.2.cl D
  | [], vs, h => by cases h; exact ⟨rfl, by simp⟩
  | (i, x) :: xs, vs, h => by
    simp only [evParts] at h
    split at h
    · rename_i v us h1 h2
      cases h
      obtain ⟨e1, c1⟩ := evOperand_conc h1 (σ := σ) hc ds
      obtain ⟨e2, c2⟩ := evParts_conc hc ds h2
      refine ⟨by simp [e1, e2], fun p hp => ?_⟩
      rcases List.mem_cons.1 hp with rfl | hp
      · exact c1
      · exact c2 p hp
    · cases h
def evOpt (n : Nat) (ts : Tr AV) : Option Operand → Option (Option AV)
  | none => some none
  | some x => match evOperand n ts x with
    | some v => some (some v)
    | none => none
theorem evOpt_conc {n : Nat} {ts : Tr AV} (hc : tcl D ts) (ds : List Deferred) {x : Option Operand} {v : Option AV} (h : evOpt n ts x = some v) :
    x.map (acts σ n ts ds).eval = v.map (conc σ) := by
  cases x with
  | none => cases h; rfl
  | some x =>
    simp only [evOpt] at h
    split at h
    · rename_i u h1
      cases h
      simp [(evOperand_conc h1 (σ := σ) hc ds).1]
    · cases h
def evCallee (T : Tbl) (s : St) (f : AV) (args : List AV) : Option OpRes :=
  match f with
  | .clo f first cap => match T.fn f with
    | some _ => some (.enter f (first ++ args ++ cap))
    | none => match T.xt f s (first ++ args ++ cap) with
      | some p => some (.vals [p])
      | none => match T.ibs f, first ++ args ++ cap with
        | true, [.str l, .int .u8 c] => match decide (0 ≤ c ∧ c < 256) with
          | true => some (.vals [(.int .i64 (idxB c.toNat l 0), s)])
          | false => none
        | _, _ => none
  | .yld n => some (.round n args)
  | _ => none
theorem callFunc_enter (hT : TblOK P T) {f : Nat} {fn : Func} (h : T.fn f = some fn) (args : Array Value) : (callFunc f args).run P w = .ok (.enter f args) w := by
  obtain ⟨h1, h2, c, h3⟩ := hT.fn f fn h
  have h2 : ¬ fn.name = "runtime.NumGoroutine" := by simpa using h2
  simp [callFunc, Sem.run_bind, run_program, h1, h2, h3]
theorem evCallee_ok (hT : TblOK P T) (H : HR T.gl D σ s w) {f : AV} {args : List AV} {q : OpRes} (hf : f.cl D) (ha : cls D args) (h : evCallee T s f args = some q) :
    OpOK P T.gl s.next D σ w (do let d ← Deferred.ofValue (conc σ f) (concs σ args).toArray; invoke d.target d.args) q := by
  unfold evCallee at h
  split at h
  · rename_i f first cap
    obtain ⟨c1, c2⟩ : cls D first ∧ cls D cap := by simpa [AV.cl] using hf
    have hargs : (concs σ first).toArray ++ (concs σ args).toArray ++ (concs σ cap).toArray = (concs σ (first ++ args ++ cap)).toArray := by simp [concs_append]
    have hrun : (do let d ← Deferred.ofValue (conc σ (.clo f first cap)) (concs σ args).toArray; invoke d.target d.args : Sem Next).run P w =
        (callFunc f (concs σ (first ++ args ++ cap)).toArray).run P w := by
      simp only [Deferred.ofValue, conc, Sem.run_bind, Sem.run_pure, Result.andThen_ok, invoke, hargs]
    split at h
    · rename_i fn hfn
      cases h
      exact ⟨by rw [hrun]; exact callFunc_enter hT hfn _, cls_append (cls_append c1 ha) c2⟩
    · split at h
      · rename_i p hp
        cases h
        obtain ⟨D', σ', w', k1, k2, k3, k4, k5⟩ := hT.xt f s _ p.1 p.2 hp D σ w H (cls_append (cls_append c1 ha) c2)
        exact ⟨_, .head _, D', σ', w', by rw [hrun]; exact k1, k2, k3, k4, k5⟩
      · split at h
        · rename_i l c hib heq
          split at h
          case h_2 => cases h
          rename_i hc
          obtain ⟨hc0, hc1⟩ := of_decide_eq_true hc
          cases h
          refine ⟨_, .head _, D, σ, w, ?_, H, Ext.refl _ _ _ _, trivial, Nat.le_refl _⟩
          rw [hrun, heq]
          simp only [concs, conc]
          exact hT.ibs f hib l c w hc0 hc1
        · cases h
  · rename_i n
    cases h
    refine ⟨?_, ha, by simpa [AV.cl] using hf⟩
    simp only [Deferred.ofValue, conc, Sem.run_bind, Sem.run_pure, Result.andThen_ok, invoke]
    simp
  · cases h
noncomputable def evBuiltin (T : Tbl) (s : St) (b : Builtin) (tys : List TypeId) (args : List AV) : Option OpRes :=
  match b, args with
  | .len, [x] => one (evLen T s tys x) s
  | .append, [a, x] => oneS (evAppend T s tys a x)
  | .clear, [x] => oneS (evClear T s tys x)
  | .max, [.int k a, .int _ b] => some (.vals [(.int k (if b > a then b else a), s)])
  | .min, [.int k a, .int _ b] => some (.vals [(.int k (if b < a then b else a), s)])
  | _, _ => none
theorem evBuiltin_ok (hT : TblOK P T) (H : HR T.gl D σ s w) {b : Builtin} {tys : List TypeId} {ty : TypeId} {cs : Array Bool} {args : List AV} {q : OpRes} (ha : cls D args) (h : evBuiltin T s b tys args = some q) :
    OpOK P T.gl s.next D σ w (builtin b tys.toArray ty cs (concs σ args).toArray) q := by
  unfold evBuiltin at h
  split at h
  · rename_i x
    exact OpOK.one h fun v hv => evLen_sim hT H ha.1 hv
  · rename_i a x
    exact OpOK.oneS h fun v s' hv => evAppend_sim hT H ha.1 ha.2.1 hv
  · rename_i x
    exact OpOK.oneS h fun v s' hv => evClear_sim hT H ha.1 hv
  · rename_i k a k' b
    cases h
    refine OpOK.sim (Sim.pure H ?_ trivial)
    simp [Builtin.max_, Builtin.max2, concs, conc]
  · rename_i k a k' b
    cases h
    refine OpOK.sim (Sim.pure H ?_ trivial)
    simp [Builtin.min_, Builtin.min2, concs, conc]
  · cases h
def evMethod (T : Tbl) (t : Nat) (name : String) : Option Nat :=
  match T.ti t with
  | some (i, d) => match i.methods.find? (fun m => m.name == name) with
    | some m => match m.path.toList, m.func with
      | [], some (f, p) => match d, p with
        | .pointer _, true => some f
        | .pointer _, false => none
        | _, false => some f
        | _, true => none
      | _, _ => none
    | none => none
  | none => none
theorem evMethod_run (hT : TblOK P T) {t : Nat} {name : String} {f : Nat} (h : evMethod T t name = some f) (v : Value) (w : World) : (method (P.types.size + Made.depth) t v name).run P w = .ok (f, v) w := by
  unfold evMethod at h
  split at h
  case h_2 => cases h
  rename_i i d ht
  split at h
  case h_2 => cases h
  rename_i m hm
  split at h
  case h_2 => cases h
  rename_i g p hpath hfunc
  obtain ⟨k1, k2⟩ := hT.ti _ _ _ ht
  have u := run_underlying (w := w) k2
  show (method (P.types.size + 99 + 1) t v name).run P w = _
  unfold method
  have e1 : (typeInfo t).run P w = .ok i w := by simp [typeInfo, k1]
  simp only [Sem.run_bind, e1, Result.andThen_ok, hm, hpath, hfunc, follow, Sem.run_pure]
  unfold receiverAt
  simp only [Sem.run_bind, u, Result.andThen_ok]
  split at h
  · cases h
    simp only [Place.get, Sem.run_pure, Result.andThen_ok]
  · cases h
  · cases h
    rename_i hnp
    cases d <;> first
      | (exact absurd rfl (hnp _))
      | (simp only [Place.get, Sem.run_pure, Result.andThen_ok])
  · cases h
def evInvoke (T : Tbl) (v : AV) (name : String) (args : List AV) : Option OpRes :=
  match v with
  | .iface t v => match evMethod T t name with
    | some f => match T.fn f with
      | some _ => some (.enter f (v :: args))
      | none => none
    | none => none
  | _ => none
theorem evInvoke_ok (hT : TblOK P T) {v : AV} {name : String} {args : List AV} {q : OpRes} (hv : v.cl D) (ha : cls D args) (h : evInvoke T v name args = some q) :
    OpOK P T.gl s.next D σ w (invoke (.fn (.method name) #[]) (#[conc σ v] ++ (concs σ args).toArray)) q := by
  unfold evInvoke at h
  split at h
  case h_2 => cases h
  rename_i t v
  split at h
  case h_2 => cases h
  rename_i f hm
  split at h
  case h_2 => cases h
  rename_i fn hfn
  cases h
  have e0 : (#[conc σ (.iface t v)] ++ (concs σ args).toArray)[0]? = some (.iface t (conc σ v)) := by simp [conc]
  have e1 : (#[conc σ (.iface t v)] ++ (concs σ args).toArray).extract 1 (#[conc σ (.iface t v)] ++ (concs σ args).toArray).size = (concs σ args).toArray := by
    apply Array.ext'
    simp
  refine ⟨?_, by simpa [AV.cl] using hv, ha⟩
  have e2 : #[conc σ v] ++ (concs σ args).toArray = (concs σ (v :: args)).toArray := by simp [concs]
  simp only [invoke, e0, e1, callMethod, Sem.run_bind, run_program, Result.andThen_ok, evMethod_run hT hm, e2]
  exact callFunc_enter hT hfn _
noncomputable def evCall (T : Tbl) (n : Nat) (ts : Tr AV) (s : St) (c : Call) : Option OpRes :=
  match evOpnds n ts c.args.toList with
  | some args => match c.callee with
    | .builtin b => evBuiltin T s b c.argTypes.toList args
    | .value f => match evOperand n ts f with
      | some f => evCallee T s f args
      | none => none
    | .invoke r m => match evOperand n ts r with
      | some v => evInvoke T v m args
      | none => none
  | none => none
theorem map_toArray {α β : Type} (a : Array α) (f : α → β) : a.map f = (a.toList.map f).toArray := by rw [← Array.toList_map, Array.toArray_toList]
theorem evCall_ok (hT : TblOK P T) (H : HR T.gl D σ s w) {n : Nat} {ts : Tr AV} (hc : tcl D ts) (ds : List Deferred) {c : Call} {ty : TypeId} {q : OpRes} (h : evCall T n ts s c = some q) :
    OpOK P T.gl s.next D σ w (do let d ← resolve (acts σ n ts ds).eval c ty; invoke d.target d.args) q := by
  unfold evCall at h
  split at h
  case h_2 => cases h
  rename_i args hargs
  obtain ⟨e1, c1⟩ := evOpnds_conc (σ := σ) hc ds hargs
  have e1' : c.args.map (acts σ n ts ds).eval = (concs σ args).toArray := by rw [map_toArray, e1]
  split at h
  · rename_i b hb
    have hr : ∀ (k : Deferred → Sem Next), (do let d ← resolve (acts σ n ts ds).eval c ty; k d : Sem Next) =
        k { target := .builtin b c.argTypes ty (c.args.map fun | .const _ => true | _ => false), args := (concs σ args).toArray } := fun k => by
      simp only [resolve, hb, e1']; rfl
    rw [hr]
    have := evBuiltin_ok hT H (ty := ty) (cs := c.args.map fun | .const _ => true | _ => false) c1 h
    simpa [invoke] using this
  · rename_i f hf
    split at h
    case h_2 => cases h
    rename_i fv hfv
    obtain ⟨e2, c2⟩ := evOperand_conc hfv (σ := σ) hc ds
    have hr : ∀ (k : Deferred → Sem Next), (do let d ← resolve (acts σ n ts ds).eval c ty; k d : Sem Next) =
        (do let d ← Deferred.ofValue (conc σ fv) (concs σ args).toArray; k d) := fun k => by
      simp only [resolve, hf, e1', e2]
    rw [hr]
    exact evCallee_ok hT H c2 c1 h
  · rename_i r m hr0
    split at h
    case h_2 => cases h
    rename_i fv hfv
    obtain ⟨e2, c2⟩ := evOperand_conc hfv (σ := σ) hc ds
    have hr : ∀ (k : Deferred → Sem Next), (do let d ← resolve (acts σ n ts ds).eval c ty; k d : Sem Next) =
        k { target := .fn (.method m) #[], args := #[conc σ fv] ++ (concs σ args).toArray } := fun k => by
      simp only [resolve, hr0, e1', e2]; rfl
    rw [hr]
    exact evInvoke_ok hT c2 c1 h
def AV.plain : AV → Bool
  | .int _ _ | .bool _ | .str _ => true
  | _ => false
theorem plain_cl {v : AV} (h : v.plain = true) : v.cl D := by cases v <;> simp_all [AV.plain, AV.cl]
theorem map_bool {r : Option Bool} {f : Bool → AV} {v : AV} (hf : ∀ b, (f b).plain = true) (h : r.map f = some v) : v.plain = true := by
  cases r with
  | none => cases h
  | some b => cases h; exact hf b
theorem evBin_plain {op : BinOp} {t : Nat} {xo yo : Operand} {x y v : AV} (h : evBin T op t xo yo x y = some v) : v.plain = true := by
  have hint : ∀ {k : IntKind} {a b : Int}, evInt op k a b = some v → v.plain = true := fun hi => by
    unfold evInt at hi
    split at hi
    all_goals first
      | (cases hi; rfl)
      | (split at hi <;> first | (cases hi; done) | (cases hi; rfl))
      | exact map_bool (fun _ => rfl) hi
      | cases hi
  unfold evBin at h
  split at h
  · rename_i k a k' b
    by_cases hk : k = k'
    · by_cases h0 : 0 ≤ b
      · simp only [hk, h0, if_true] at h
        split at h
        · cases h; rfl
        · cases h; rfl
        · exact hint h
      · simp only [hk, h0, if_false, if_true] at h
        split at h
        · cases h
        · cases h
        · exact hint h
    · by_cases h0 : 0 ≤ b
      · simp only [hk, h0, if_true, if_false] at h
        split at h
        · cases h; rfl
        · cases h; rfl
        · cases h
      · simp only [hk, h0, if_false] at h
        split at h <;> cases h
  · unfold evStr at h
    split at h
    · split at h
      · cases h; rfl
      · cases h
    all_goals first | (cases h; rfl) | cases h
  · split at h
    · split at h
      · exact map_bool (fun _ => rfl) h
      · exact map_bool (fun _ => rfl) h
      · cases h
    · cases h
  · split at h
    · exact map_bool (fun _ => rfl) h
    · exact map_bool (fun _ => rfl) h
    · cases h
theorem evBin_sim (hT : TblOK P T) (H : HR T.gl D σ s w) {op : BinOp} {t : Nat} {xo yo : Operand} {x y v : AV} (h : evBin T op t xo yo x y = some v) :
    Sim P T.gl s.next D σ w (do eqGuard op t xo yo (conc σ x) (conc σ y); binOp op t (conc σ x) (conc σ y)) v s :=
  Sim.pure H (evBin_run hT h) (plain_cl (evBin_plain h))
noncomputable def evOp (T : Tbl) (n : Nat) (ts : Tr AV) (s : St) (o : Oper) : Option OpRes :=
  match o.op with
  | .move x => one (evOperand n ts x) s
  | .assign x => one (evOperand n ts x) s
  | .pick c a b => match evOperand n ts c with
    | some (.bool true) => one (evOperand n ts a) s
    | some (.bool false) => one (evOperand n ts b) s
    | _ => none
  | .alloc e => oneS (evAlloc T s e)
  | .box _ x => match evOperand n ts x with
    | some v => oneS (evBox s v)
    | none => none
  | .build t parts => match evParts n ts parts.toList with
    | some l => one (evBuild T t l) s
    | none => none
  | .buildSlice t len parts => match evParts n ts parts.toList with
    | some l => oneS (evBuildSlice T s t len l)
    | none => none
  | .load t a => match evOperand n ts a with
    | some a => one (evLoad T s t a) s
    | none => none
  | .store t a x => match evOperand n ts a, evOperand n ts x with
    | some a, some x => skipS (evStore T s t a x)
    | _, _ => none
  | .nilCheck x => match evOperand n ts x with
    | some (.ptr m o) => some (.vals [(.ptr m o, s)])
    | some (.glob m o) => some (.vals [(.glob m o, s)])
    | _ => none
  | .binOp op t x y _ => match evOperand n ts x, evOperand n ts y with
    | some a, some b => one (evBin T op t x y a b) s
    | _, _ => none
  | .unOp op _ x => match evOperand n ts x with
    | some a => one (evUn op a) s
    | none => none
  | .convert a b x => match evOperand n ts x with
    | some v => one (evConvert T s a b v) s
    | none => none
  | .makeInterface t x => match evOperand n ts x with
    | some v => one (evMakeInterface T t v) s
    | none => none
  | .makeFunc (.func f) first cap => match evOpnds n ts first.toList, evOpnds n ts cap.toList with
    | some a, some b => some (.vals [(.clo f a b, s)])
    | _, _ => none
  | .makeMap _ none => oneS (evMakeMap s)
  | .makeMap t (some x) => match T.ti t, evOperand n ts x with
    | some (_, .map _ _), some (.int _ _) => oneS (evMakeMap s)
    | _, _ => none
  | .makeSlice t l c => match evOperand n ts l, evOperand n ts c with
    | some l, some c => oneS (evMakeSlice T s t l c)
    | _, _ => none
  | .slice t x lo hi mx => match evOperand n ts x, evOpt n ts lo, evOpt n ts hi, evOpt n ts mx with
    | some x, some lo, some hi, some mx => one (evSlice T t x lo hi mx) s
    | _, _, _, _ => none
  | .fieldAddr t x f => match evOperand n ts x with
    | some v => one (evFieldAddr T t v f) s
    | none => none
  | .field t x f => match evOperand n ts x with
    | some v => one (evField T t v f) s
    | none => none
  | .indexAddr t x i => match evOperand n ts x, evOperand n ts i with
    | some x, some i => one (evIndexAddr T t x i) s
    | _, _ => none
  | .index t x i => match evOperand n ts x, evOperand n ts i with
    | some x, some i => one (evIndex T t x i) s
    | _, _ => none
  | .lookup t x i ok => match evOperand n ts x, evOperand n ts i with
    | some x, some i => one (evLookup T s t x i ok) s
    | _, _ => none
  | .mapUpdate t m k x => match evOperand n ts m, evOperand n ts k, evOperand n ts x with
    | some m, some k, some x => skipS (evMapUpdate T s t m k x)
    | _, _, _ => none
  | .insert t m k x => match evOperand n ts m, evOperand n ts k, evOperand n ts x with
    | some m, some k, some x => skipS (evMapUpdate T s t m k x)
    | _, _, _ => none
  | .range t x => match evOperand n ts x with
    | some x => oneS (evRange T s t x)
    | none => none
  | .next it false => match evOperand n ts it with
    | some it => match evNext s it with
      | some l => some (.vals l)
      | none => none
    | none => none
  | .entry it => match evOperand n ts it with
    | some it => one (evEntry s it) s
    | none => none
  | .typeAssert x _ t ok => match evOperand n ts x with
    | some x => one (evTypeAssert T x t ok) s
    | none => none
  | .extract x i => match evOperand n ts x with
    | some x => one (evExtract x i) s
    | none => none
  | .call c => evCall T n ts s c
  | .defer c => match c.callee, evOpnds n ts c.args.toList with
    | .value f, some args => match evOperand n ts f with
      | some (.clo g first cap) => some (.defer (.fn g cap (first ++ args)))
      | _ => none
    | _, _ => none
  | _ => none
theorem run_value {m : Sem Next} {v : Value} (h : m = pure (.value v)) : m.run P w = .ok (.value v) w := by rw [h]; rfl
theorem evOp_ok (hT : TblOK P T) (H : HR T.gl D σ s w) {n : Nat} {ts : Tr AV} (hc : tcl D ts) (ds : List Deferred) {o : Oper} {q : OpRes} (h : evOp T n ts s o = some q) :
    OpOK P T.gl s.next D σ w (execOp (acts σ n ts ds).eval o) q := by
  have opd : ∀ {x : Operand} {v : AV}, evOperand n ts x = some v → (acts σ n ts ds).eval x = conc σ v ∧ v.cl D := fun hx => evOperand_conc hx hc ds
  have val : ∀ {x : Operand}, one (evOperand n ts x) s = some q → OpOK P T.gl s.next D σ w (pure (.value ((acts σ n ts ds).eval x))) q := fun {x} hx => by
    cases hv : evOperand n ts x with
    | none => rw [hv] at hx; cases hx
    | some v =>
      rw [hv] at hx
      cases hx
      obtain ⟨e, c⟩ := opd hv
      exact ⟨_, .head _, D, σ, w, by rw [e]; rfl, H, Ext.refl _ _ _ _, c, Nat.le_refl _⟩
  unfold evOp at h
  unfold execOp
  cases hop : o.op <;> simp only [hop] at h ⊢
  case move x => exact val h
  case assign x => exact val h
  case pick c a b =>
    split at h
    · rename_i hv
      have := val h
      simpa [(opd hv).1, conc, asBool] using this
    · rename_i hv
      have := val h
      simpa [(opd hv).1, conc, asBool] using this
    · cases h
  case alloc e => exact OpOK.oneS h fun v s' hv => evAlloc_sim hT H hv
  case box e x =>
    split at h
    · rename_i u hu
      rw [(opd hu).1]
      exact OpOK.oneS h fun v s' hv => evBox_sim H (opd hu).2 hv
    · cases h
  case build t parts =>
    split at h
    · rename_i l hl
      obtain ⟨e1, c1⟩ := evParts_conc (σ := σ) hc ds hl
      have e2 : (parts.map fun p => (p.1, (acts σ n ts ds).eval p.2)) = (l.map fun p => (p.1, conc σ p.2)).toArray := by rw [map_toArray, e1]
      rw [e2]
      exact OpOK.one h fun v hv => evBuild_sim hT H c1 hv
    · cases h
  case buildSlice t len parts =>
    split at h
    · rename_i l hl
      obtain ⟨e1, c1⟩ := evParts_conc (σ := σ) hc ds hl
      have e2 : (parts.map fun p => (p.1, (acts σ n ts ds).eval p.2)) = (l.map fun p => (p.1, conc σ p.2)).toArray := by rw [map_toArray, e1]
      rw [e2]
      exact OpOK.oneS h fun v s' hv => evBuildSlice_sim hT H c1 hv
    · cases h
  case insert t m k x =>
    split at h
    · rename_i a b c ha hb hcc
      rw [(opd ha).1, (opd hb).1, (opd hcc).1]
      exact OpOK.skipS h fun s' hv => evMapUpdate_sim hT H (opd ha).2 (opd hcc).2 hv
    · cases h
  case load t a =>
    split at h
    · rename_i u hu
      rw [(opd hu).1]
      exact OpOK.one h fun v hv => evLoad_sim hT H (opd hu).2 hv
    · cases h
  case store t a x =>
    split at h
    · rename_i u v hu hv
      rw [(opd hu).1, (opd hv).1]
      exact OpOK.skipS h fun s' hq => evStore_sim hT H (opd hu).2 (opd hv).2 hq
    · cases h
  case nilCheck x =>
    split at h
    · rename_i m o hu
      cases h
      rw [(opd hu).1]
      exact ⟨_, .head _, D, σ, w, rfl, H, Ext.refl _ _ _ _, (opd hu).2, Nat.le_refl _⟩
    · rename_i m o hu
      cases h
      rw [(opd hu).1]
      exact ⟨_, .head _, D, σ, w, rfl, H, Ext.refl _ _ _ _, (opd hu).2, Nat.le_refl _⟩
    · cases h
  case binOp op t x y yt =>
    split at h
    · rename_i u v hu hv
      rw [(opd hu).1, (opd hv).1]
      exact OpOK.one h fun r hr => evBin_sim hT H hr
    · cases h
  case unOp op t x =>
    split at h
    · rename_i u hu
      rw [(opd hu).1]
      exact OpOK.one h fun r hr => evUn_sim H hr
    · cases h
  case convert a b x =>
    split at h
    · rename_i u hu
      rw [(opd hu).1]
      exact OpOK.one h fun r hr => evConvert_sim hT H (opd hu).2 hr
    · cases h
  case makeInterface t x =>
    split at h
    · rename_i u hu
      rw [(opd hu).1]
      exact OpOK.one h fun r hr => evMakeInterface_sim hT H (opd hu).2 hr
    · cases h
  case makeFunc fn first cap =>
    cases fn with
    | func f =>
      simp only at h
      split at h
      · rename_i a b ha hb
        cases h
        obtain ⟨e1, c1⟩ := evOpnds_conc (σ := σ) hc ds ha
        obtain ⟨e2, c2⟩ := evOpnds_conc (σ := σ) hc ds hb
        refine ⟨_, .head _, D, σ, w, ?_, H, Ext.refl _ _ _ _, ⟨c1, c2⟩, Nat.le_refl _⟩
        rw [map_toArray, e1, map_toArray, e2]
        simp [Instr.makeFunc, conc]
      · cases h
    | _ => simp at h
  case makeMap t r =>
    cases r with
    | none =>
      simp only at h
      exact OpOK.oneS h fun v s' hv => evMakeMap_sim H hv
    | some x =>
      simp only at h
      split at h
      · rename_i i a b k m ht hu
        simp only [Option.map_some, (opd hu).1]
        exact OpOK.oneS h fun v s' hv => evMakeMap_sim' hT H ht hv
      · cases h
  case makeSlice t l c =>
    split at h
    · rename_i u v hu hv
      rw [(opd hu).1, (opd hv).1]
      exact OpOK.oneS h fun r s' hr => evMakeSlice_sim hT H hr
    · cases h
  case slice t x lo hi mx =>
    split at h
    · rename_i u a b c hu ha hb hcc
      rw [(opd hu).1, evOpt_conc hc ds ha, evOpt_conc hc ds hb, evOpt_conc hc ds hcc]
      exact OpOK.one h fun r hr => evSlice_sim hT H (opd hu).2 hr
    · cases h
  case fieldAddr t x f =>
    split at h
    · rename_i u hu
      rw [(opd hu).1]
      exact OpOK.one h fun r hr => evFieldAddr_sim hT H (opd hu).2 hr
    · cases h
  case field t x f =>
    split at h
    · rename_i u hu
      rw [(opd hu).1]
      exact OpOK.one h fun r hr => evField_sim hT H (opd hu).2 hr
    · cases h
  case indexAddr t x i =>
    split at h
    · rename_i u v hu hv
      rw [(opd hu).1, (opd hv).1]
      exact OpOK.one h fun r hr => evIndexAddr_sim hT H (opd hu).2 hr
    · cases h
  case index t x i =>
    split at h
    · rename_i u v hu hv
      rw [(opd hu).1, (opd hv).1]
      exact OpOK.one h fun r hr => evIndex_sim hT H (opd hu).2 hr
    · cases h
  case lookup t x i ok =>
    split at h
    · rename_i u v hu hv
      rw [(opd hu).1, (opd hv).1]
      exact OpOK.one h fun r hr => evLookup_sim hT H (opd hu).2 hr
    · cases h
  case mapUpdate t m k x =>
    split at h
    · rename_i a b c ha hb hcc
      rw [(opd ha).1, (opd hb).1, (opd hcc).1]
      exact OpOK.skipS h fun s' hv => evMapUpdate_sim hT H (opd ha).2 (opd hcc).2 hv
    · cases h
  case range t x =>
    split at h
    · rename_i u hu
      rw [(opd hu).1]
      exact OpOK.oneS h fun r s' hr => evRange_sim hT H (opd hu).2 hr
    · cases h
  case next it isS =>
    cases isS with
    | true => simp at h
    | false =>
      simp only at h
      split at h
      · rename_i u hu
        split at h
        · rename_i l hl
          cases h
          rw [(opd hu).1]
          exact OpOK.simL (evNext_sim H (opd hu).2 hl _)
        · cases h
      · cases h
  case entry it =>
    split at h
    · rename_i u hu
      rw [(opd hu).1]
      exact OpOK.one h fun r hr => evEntry_sim H (opd hu).2 hr
    · cases h
  case typeAssert x xt t ok =>
    split at h
    · rename_i u hu
      rw [(opd hu).1]
      exact OpOK.one h fun r hr => evTypeAssert_sim hT H (opd hu).2 hr
    · cases h
  case extract x i =>
    split at h
    · rename_i u hu
      rw [(opd hu).1]
      exact OpOK.one h fun r hr => evExtract_sim H (opd hu).2 hr
    · cases h
  case call c => exact evCall_ok hT H hc ds h
  case defer c =>
    split at h
    · rename_i f args hf hargs
      split at h
      · rename_i g first cap hfv
        cases h
        obtain ⟨e1, c1⟩ := evOpnds_conc (σ := σ) hc ds hargs
        obtain ⟨e2, c2⟩ := opd hfv
        obtain ⟨c3, c4⟩ : cls D first ∧ cls D cap := by simpa [AV.cl] using c2
        refine ⟨?_, c4, cls_append c3 c1⟩
        have e1' : c.args.map (acts σ n ts ds).eval = (concs σ args).toArray := by rw [map_toArray, e1]
        simp only [resolve, hf, e1', e2, conc, Deferred.ofValue, Sem.run_bind, Sem.run_pure, Result.andThen_ok, ADef.conc, concs_append]
        simp
      · cases h
    · cases h
  all_goals cases h
end
end
end Go.Ai
end
