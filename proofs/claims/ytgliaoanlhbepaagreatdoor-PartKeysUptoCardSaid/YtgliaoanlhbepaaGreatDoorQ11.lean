/- Walks, printed by a program of this session: what each function of the law computes. -/
import Derived.Test.YtgliaoanlhbepaaGreatDoorQ0
import Derived.Test.YtgliaoanlhbepaaGreatDoorQ1
import Derived.Test.YtgliaoanlhbepaaGreatDoorQ10
namespace Go.Proofs.YtgliaoanlhbepaaGreatDoor.Q
open Go.RowKit Go.Proofs.bT.eG Go.Proofs.bT.iM Go.Proofs.bT.jd
open Go.Proofs.bT.eG renaming lF → pN, lZ → au, l6 → bA, mZ → bS, m_ → bZ, ng → bP, ni → kN, nk → kD, nu → kA, ny → fz, nA → kB, lH → kL
attribute [local go_sem] nC nD nE nG nH nI nJ nK
set_option maxHeartbeats 8000000
set_option maxRecDepth 100000
set_option linter.unusedVariables false
set_option linter.unusedSimpArgs false
attribute [local go_sem high] Le
mutual
noncomputable def dI.j0 : Nat → Bool → Int → Int → ByteArray → Bool → Bool → Int → Int → ByteArray → Bool → Bool → Int → Bool → ByteArray → Int → Int → ByteArray → Bool → Bool → Option (Int)
 | 0, _, _, _, _, _, _, _, _, _, _, _, _, _, _, _, _, _, _, _ => none
 | k + 1, x18, oh, sJ, sK, qd, sM, uF, uG, uH, uI, uJ, oo, sO, uK, qg, qh, qj, ql, qm => if x18 = true then (some 1) else (if ((gu uF oh uG sJ uH sK uI qd uJ sM) = true) then (if uK.toList = ([] : List UInt8) then (if sO = true then (dI.j1 k (!qd) oh sJ sK qd sM uF uG uH uI uJ oo sO uK qg qh qj ql qm) else (dI.j1 k false oh sJ sK qd sM uF uG uH uI uJ oo sO uK qg qh qj ql qm)) else (dI.j1 k true oh sJ sK qd sM uF uG uH uI uJ oo sO uK qg qh qj ql qm)) else (dI.j1 k true oh sJ sK qd sM uF uG uH uI uJ oo sO uK qg qh qj ql qm))
noncomputable def dI.j1 : Nat → Bool → Int → Int → ByteArray → Bool → Bool → Int → Int → ByteArray → Bool → Bool → Int → Bool → ByteArray → Int → Int → ByteArray → Bool → Bool → Option (Int)
 | 0, _, _, _, _, _, _, _, _, _, _, _, _, _, _, _, _, _, _, _ => none
 | k + 1, Z8, oh, sJ, sK, qd, sM, uF, uG, uH, uI, uJ, oo, sO, uK, qg, qh, qj, ql, qm => if Z8 = true then (some 6) else (if oh = 4 then (if oo = 0 then ((l5.f k qg qh qj ql qm).bind fun t251 => (if t251 = 0 then ((wQ.f qg qh qj ql qm).bind fun t252 => (if t252 = true then (some 0) else (some 6))) else (some 6))) else (some 6)) else (if ((gu qg 0 qh 0 qj (⟨#[]⟩ : ByteArray) ql false qm false) = true) then (if sO = true then (dI.j2 k true oh sJ sK qd sM uF uG uH uI uJ oo sO uK qg qh qj ql qm) else (dI.j2 k (oh == 0) oh sJ sK qd sM uF uG uH uI uJ oo sO uK qg qh qj ql qm)) else (some 6)))
noncomputable def dI.j2 : Nat → Bool → Int → Int → ByteArray → Bool → Bool → Int → Int → ByteArray → Bool → Bool → Int → Bool → ByteArray → Int → Int → ByteArray → Bool → Bool → Option (Int)
 | 0, _, _, _, _, _, _, _, _, _, _, _, _, _, _, _, _, _, _, _ => none
 | k + 1, Z9, oh, sJ, sK, qd, sM, uF, uG, uH, uI, uJ, oo, sO, uK, qg, qh, qj, ql, qm => if Z9 = true then (if oo = 0 then (some 0) else (some 6)) else (if oh = 1 then (if oo = 0 then (some 0) else (if oo = 1 then (some 0) else (some 6))) else ((p9.f oh sJ sK qd sM).bind fun DV => ((uo.f k DV.1 DV.2 oo).bind fun t255 => (if t255 = true then (some 0) else (some 6)))))
end
noncomputable def dI.f (k : Nat) (ah : Int) (av : Int) (aG : ByteArray) (aJ : Bool) (aI : Bool) (bJ : Int) (bK : Int) (bL : ByteArray) (bM : Bool) (bN : Bool) (bg : Int) (bU : Bool) (bH : ByteArray) (bq : Int) (bC : Int) (bE : ByteArray) (bF : Bool) (bG : Bool) : Option (Int) := (l5.f k ah av aG aJ aI).bind fun t249 => (if t249 = 0 then (if ah = 5 then (dI.j0 k true ah av aG aJ aI bJ bK bL bM bN bg bU bH bq bC bE bF bG) else (dI.j0 k aI ah av aG aJ aI bJ bK bL bM bN bg bU bH bq bC bE bF bG)) else (dI.j0 k true ah av aG aJ aI bJ bK bL bM bN bg bU bH bq bC bE bF bG))
theorem dI.calls (k : Nat) (ah : Int) (av : Int) (aG : ByteArray) (aJ : Bool) (aI : Bool) (bJ : Int) (bK : Int) (bL : ByteArray) (bM : Bool) (bN : Bool) (bg : Int) (bU : Bool) (bH : ByteArray) (bq : Int) (bC : Int) (bE : ByteArray) (bF : Bool) (bG : Bool) (r : Int) (w : World) (h : dI.f k ah av aG aJ aI bJ bK bL bM bN bg bU bH bq bC bE bF bG = some r) :
 Calls Tryz.prog 9 #[.agg #[.int .i64 ah, .int .i64 av, .string aG, .bool aJ, .bool aI], .agg #[.int .i64 bJ, .int .i64 bK, .string bL, .bool bM, .bool bN, .int .i64 bg, .bool bU, .string bH, .int .i64 bq, .int .i64 bC, .string bE, .bool bF, .bool bG]] w fun e w' => e = .returned (.int .i64 r) ∧ Below w.heap.size w w' := by
 have lI := Tryz.underlying29
 have wW := Tryz.underlying31
 have HB := am (Below.refl w.heap.size w)
 have H : ((l5.f k ah av aG aJ aI).bind fun t249 => (if t249 = 0 then (if ah = 5 then (dI.j0 k true ah av aG aJ aI bJ bK bL bM bN bg bU bH bq bC bE bF bG) else (dI.j0 k aI ah av aG aJ aI bJ bK bL bM bN bg bU bH bq bC bE bF bG)) else (dI.j0 k true ah av aG aJ aI bJ bK bL bM bN bg bU bH bq bC bE bF bG))) = some r := h
 clear h
 have mO := am H
 clear H
 go_enter Tryz.func9, Tryz.ntmps9
 go_upto_region 1 with (first | ((with_reducible refine cK (N := 2) rfl ?_); refine cO ?hg (N := 2) ?hd (cs := #[.int .i64 ah, .int .i64 av, .string aG, .bool aJ, .bool aI]) (t := 29) ?hr ?_; (case hd => rfl); (case hg => rfl); (case hr => first | (go_simp; done) | (go_simp; rfl)); intro eT hg w4 aV hb; have ay := am (bP (by repeat (first | (with_reducible first | exact HB.out | apply bA | apply pN | apply au) | exact HB.out)) hb); have aA := am (aV); have aK := am ((by rw [hg]; exact (bZ (by repeat (first | (with_reducible first | exact HB.out | apply bA | apply pN | apply au) | exact HB.out))) : w.heap.size ≤ eT)); have aU := am ((by rw [hg]; exact (bZ (by repeat (first | (with_reducible first | exact HB.out | apply bA | apply pN | apply au) | exact HB.out))) : w.heap.size ≤ eT)); clear HB; have HB := ay; have aM := aA; have ahG := aK; have fq := aU; clear ay aA aK aU; clear hb aV hg) | ((with_reducible refine cK (N := 3) rfl ?_); refine cO ?hg (N := 3) ?hd (cs := #[.int .i64 bJ, .int .i64 bK, .string bL, .bool bM, .bool bN, .int .i64 bg, .bool bU, .string bH, .int .i64 bq, .int .i64 bC, .string bE, .bool bF, .bool bG]) (t := 31) ?hr ?_; (case hd => rfl); (case hg => rfl); (case hr => first | (go_simp; done) | (go_simp; rfl)); intro dL hg w5 aV hb; have ay := am (kB (g := eT) (o := .cells #[.int .i64 ah, .int .i64 av, .string aG, .bool aJ, .bool aI] 29 (0, 0)) (by (with_reducible repeat (first | apply kN | apply kD | apply kA)); exact aM.out) hb); have aA := am (bP (by repeat (first | (with_reducible first | exact HB.out | apply bA | apply pN | apply au | refine bS ?_ fq.out) | exact HB.out)) hb); have aK := am (aV); have aU := am ((by rw [hg]; exact (bZ (by repeat (first | (with_reducible first | exact HB.out | apply bA | apply pN | apply au | refine bS ?_ fq.out) | exact HB.out))) : w.heap.size ≤ dL)); have dZ := am ((by rw [hg]; exact (bZ (by repeat (first | (with_reducible first | exact HB.out | apply bA | apply pN | apply au | refine bS ?_ fq.out) | exact HB.out))) : w.heap.size ≤ dL)); have eH := am ((by rw [hg]; exact Nat.ne_of_lt (kL (g := eT) (o := .cells #[.int .i64 ah, .int .i64 av, .string aG, .bool aJ, .bool aI] 29 (0, 0)) (by (with_reducible repeat (first | apply kN | apply kD | apply kA)); exact aM.out)) : eT ≠ dL)); have eO := am ((by rw [hg]; exact Nat.ne_of_gt (kL (g := eT) (o := .cells #[.int .i64 ah, .int .i64 av, .string aG, .bool aJ, .bool aI] 29 (0, 0)) (by (with_reducible repeat (first | apply kN | apply kD | apply kA)); exact aM.out)) : dL ≠ eT)); clear aM; clear HB; have aM := ay; have HB := aA; have aj := aK; have ahH := aU; have fA := dZ; have jG := eH; have jH := eO; clear ay aA aK aU dZ eH eO; clear hb aV hg))
 (try simp only [Act.put, List.setIfInBounds_toArray, List.set_cons_zero, List.set_cons_succ])
 go_cut [18] (fun v18 wc => ∃ (kq : Nat) (GI : Bool), v18 = .bool GI ∧ bI (dI.j0 kq GI ah av aG aJ aI bJ bK bL bM bN bg bU bH bq bC bE bF bG = some r) ∧ bI (kq ≤ k) ∧ bI (wc.heap[eT]? = some (.cells #[.int .i64 ah, .int .i64 av, .string aG, .bool aJ, .bool aI] 29 (0, 0))) ∧ bI (wc.heap[dL]? = some (.cells #[.int .i64 bJ, .int .i64 bK, .string bL, .bool bM, .bool bN, .int .i64 bg, .bool bU, .string bH, .int .i64 bq, .int .i64 bC, .string bE, .bool bF, .bool bG] 31 (0, 0))) ∧ bI (Below w.heap.size w wc))
 case first =>
  have H := mO.out
  clear mO
  replace H := Option.bind_eq_some_iff.mp H
  obtain ⟨t249, lM, H⟩ := H
  replace H : (if t249 = 0 then (if ah = 5 then (dI.j0 k true ah av aG aJ aI bJ bK bL bM bN bg bU bH bq bC bE bF bG) else (dI.j0 k aI ah av aG aJ aI bJ bK bL bM bN bg bU bH bq bC bE bF bG)) else (dI.j0 k true ah av aG aJ aI bJ bK bL bM bN bg bU bH bq bC bE bF bG)) = some r := H
  have A6 := am lM
  clear lM
  by_cases c7 : t249 = 0
  ·rw [if_pos c7] at H
   have iB : (t249 == 0) = true := beq_iff_eq.mpr c7
   have j5 : (t249 != 0) = false := bne_eq_false_iff_eq.mpr c7
   clear c7
   (first | rw [iB] | (simp only [dS, eZ]; rw [iB]) | skip)
   by_cases c8 : ah = 5
   ·rw [if_pos c8] at H
    have l8 : (ah == 5) = true := beq_iff_eq.mpr c8
    have l9 : (ah != 5) = false := bne_eq_false_iff_eq.mpr c8
    clear c8
    have H' := am H
    clear H
    have Z_ := jG.out
    have aac := jH.out
    have := cz aM.out 0 rfl
    have := cz aM.out 1 rfl
    have := cz aM.out 2 rfl
    have := cz aM.out 3 rfl
    have := cz aM.out 4 rfl
    have := fz aM.out 0
    have := fz aM.out 1
    have := fz aM.out 2
    have := fz aM.out 3
    have := fz aM.out 4
    go_wp2_with (first | ((with_reducible refine bY (f := 18) rfl ?_); refine b_ (some 8) rfl rfl Tryz.func18 (by kernel_rfl) rfl #[.agg #[.int .i64 ah, .int .i64 av, .string aG, .bool aJ, .bool aI]] rfl (by (try simp only [List.map_toArray, List.map_cons, List.map_nil]); first | done | rfl | (simp only [List.length_drop, List.length_take]; rfl)) ?_; (with_reducible refine (l5.calls k ah av aG aJ aI t249 _ A6.out).mono ?_); rintro e sP ⟨rfl, hb⟩; refine ⟨_, rfl, ?_⟩; have ay := am (kB (g := eT) (o := .cells #[.int .i64 ah, .int .i64 av, .string aG, .bool aJ, .bool aI] 29 (0, 0)) (by (with_reducible repeat (first | apply kN | apply kD | apply kA)); exact aM.out) hb); have aA := am (kB (g := dL) (o := .cells #[.int .i64 bJ, .int .i64 bK, .string bL, .bool bM, .bool bN, .int .i64 bg, .bool bU, .string bH, .int .i64 bq, .int .i64 bC, .string bE, .bool bF, .bool bG] 31 (0, 0)) (by (with_reducible repeat (first | apply kN | apply kD | apply kA)); exact aj.out) hb); have aK := am (bP (by repeat (first | (with_reducible first | exact HB.out | apply bA | apply pN | apply au | refine bS ?_ fq.out | refine bS ?_ fA.out) | exact HB.out)) hb); clear aM; clear aj; clear HB; have aM := ay; have aj := aA; have HB := aK; clear ay aA aK; (try clear hb); (try clear hb2); (try clear hk); (try clear hi); have := cz aM.out 0 rfl; have := cz aM.out 1 rfl; have := cz aM.out 2 rfl; have := cz aM.out 3 rfl; have := cz aM.out 4 rfl; have := fz aM.out 0; have := fz aM.out 1; have := fz aM.out 2; have := fz aM.out 3; have := fz aM.out 4))
    go_meet
    case rel => exact ⟨_, (true), (by first | rfl | (simp; done) | (simp [*]; done)), H', ⟨by first | omega | exact Nat.le_refl _⟩, ⟨by (with_reducible repeat (first | apply kN | apply kD | apply kA)); exact aM.out⟩, ⟨by (with_reducible repeat (first | apply kN | apply kD | apply kA)); exact aj.out⟩, ⟨by repeat (first | (with_reducible first | exact HB.out | apply bA | apply pN | apply au | refine bS ?_ fq.out | refine bS ?_ fA.out) | exact HB.out)⟩⟩
   ·rw [if_neg c8] at H
    have l8 : (ah == 5) = false := beq_eq_false_iff_ne.mpr c8
    have l9 : (ah != 5) = true := bne_iff_ne.mpr c8
    have H' := am H
    clear H
    have RL := jG.out
    have RN := jH.out
    have := cz aM.out 0 rfl
    have := cz aM.out 1 rfl
    have := cz aM.out 2 rfl
    have := cz aM.out 3 rfl
    have := cz aM.out 4 rfl
    have := fz aM.out 0
    have := fz aM.out 1
    have := fz aM.out 2
    have := fz aM.out 3
    have := fz aM.out 4
    go_wp2_with (first | ((with_reducible refine bY (f := 18) rfl ?_); refine b_ (some 8) rfl rfl Tryz.func18 (by kernel_rfl) rfl #[.agg #[.int .i64 ah, .int .i64 av, .string aG, .bool aJ, .bool aI]] rfl (by (try simp only [List.map_toArray, List.map_cons, List.map_nil]); first | done | rfl | (simp only [List.length_drop, List.length_take]; rfl)) ?_; (with_reducible refine (l5.calls k ah av aG aJ aI t249 _ A6.out).mono ?_); rintro e yY ⟨rfl, hb⟩; refine ⟨_, rfl, ?_⟩; have ay := am (kB (g := eT) (o := .cells #[.int .i64 ah, .int .i64 av, .string aG, .bool aJ, .bool aI] 29 (0, 0)) (by (with_reducible repeat (first | apply kN | apply kD | apply kA)); exact aM.out) hb); have aA := am (kB (g := dL) (o := .cells #[.int .i64 bJ, .int .i64 bK, .string bL, .bool bM, .bool bN, .int .i64 bg, .bool bU, .string bH, .int .i64 bq, .int .i64 bC, .string bE, .bool bF, .bool bG] 31 (0, 0)) (by (with_reducible repeat (first | apply kN | apply kD | apply kA)); exact aj.out) hb); have aK := am (bP (by repeat (first | (with_reducible first | exact HB.out | apply bA | apply pN | apply au | refine bS ?_ fq.out | refine bS ?_ fA.out) | exact HB.out)) hb); clear aM; clear aj; clear HB; have aM := ay; have aj := aA; have HB := aK; clear ay aA aK; (try clear hb); (try clear hb2); (try clear hk); (try clear hi); have := cz aM.out 0 rfl; have := cz aM.out 1 rfl; have := cz aM.out 2 rfl; have := cz aM.out 3 rfl; have := cz aM.out 4 rfl; have := fz aM.out 0; have := fz aM.out 1; have := fz aM.out 2; have := fz aM.out 3; have := fz aM.out 4))
    go_meet
    case rel => exact ⟨_, (aI), (by first | rfl | (simp; done) | (simp [*]; done)), H', ⟨by first | omega | exact Nat.le_refl _⟩, ⟨by (with_reducible repeat (first | apply kN | apply kD | apply kA)); exact aM.out⟩, ⟨by (with_reducible repeat (first | apply kN | apply kD | apply kA)); exact aj.out⟩, ⟨by repeat (first | (with_reducible first | exact HB.out | apply bA | apply pN | apply au | refine bS ?_ fq.out | refine bS ?_ fA.out) | exact HB.out)⟩⟩
  ·rw [if_neg c7] at H
   have iB : (t249 == 0) = false := beq_eq_false_iff_ne.mpr c7
   have j5 : (t249 != 0) = true := bne_iff_ne.mpr c7
   (first | rw [iB] | (simp only [dS, eZ]; rw [iB]) | skip)
   have H' := am H
   clear H
   have aad := jG.out
   have aae := jH.out
   have := cz aM.out 0 rfl
   have := cz aM.out 1 rfl
   have := cz aM.out 2 rfl
   have := cz aM.out 3 rfl
   have := cz aM.out 4 rfl
   have := fz aM.out 0
   have := fz aM.out 1
   have := fz aM.out 2
   have := fz aM.out 3
   have := fz aM.out 4
   go_wp2_with (first | ((with_reducible refine bY (f := 18) rfl ?_); refine b_ (some 8) rfl rfl Tryz.func18 (by kernel_rfl) rfl #[.agg #[.int .i64 ah, .int .i64 av, .string aG, .bool aJ, .bool aI]] rfl (by (try simp only [List.map_toArray, List.map_cons, List.map_nil]); first | done | rfl | (simp only [List.length_drop, List.length_take]; rfl)) ?_; (with_reducible refine (l5.calls k ah av aG aJ aI t249 _ A6.out).mono ?_); rintro e DW ⟨rfl, hb⟩; refine ⟨_, rfl, ?_⟩; have ay := am (kB (g := eT) (o := .cells #[.int .i64 ah, .int .i64 av, .string aG, .bool aJ, .bool aI] 29 (0, 0)) (by (with_reducible repeat (first | apply kN | apply kD | apply kA)); exact aM.out) hb); have aA := am (kB (g := dL) (o := .cells #[.int .i64 bJ, .int .i64 bK, .string bL, .bool bM, .bool bN, .int .i64 bg, .bool bU, .string bH, .int .i64 bq, .int .i64 bC, .string bE, .bool bF, .bool bG] 31 (0, 0)) (by (with_reducible repeat (first | apply kN | apply kD | apply kA)); exact aj.out) hb); have aK := am (bP (by repeat (first | (with_reducible first | exact HB.out | apply bA | apply pN | apply au | refine bS ?_ fq.out | refine bS ?_ fA.out) | exact HB.out)) hb); clear aM; clear aj; clear HB; have aM := ay; have aj := aA; have HB := aK; clear ay aA aK; (try clear hb); (try clear hb2); (try clear hk); (try clear hi)))
   go_meet
   case rel => exact ⟨_, (true), (by first | rfl | (simp; done) | (simp [*]; done)), H', ⟨by first | omega | exact Nat.le_refl _⟩, ⟨by (with_reducible repeat (first | apply kN | apply kD | apply kA)); exact aM.out⟩, ⟨by (with_reducible repeat (first | apply kN | apply kD | apply kA)); exact aj.out⟩, ⟨by repeat (first | (with_reducible first | exact HB.out | apply bA | apply pN | apply au | refine bS ?_ fq.out | refine bS ?_ fA.out) | exact HB.out)⟩⟩
 case rest =>
  clear mO
  try clear c1
  try clear p2
  try clear c7
  try clear iB
  try clear j5
  try clear c8
  try clear l8
  try clear l9
  try clear c9
  try clear c13
  try clear c17
  try clear c18
  try clear GJ
  try clear GK
  try clear GL
  try clear GN
  try clear GQ
  try clear zh
  try clear zi
  try clear zk
  try clear zl
  try clear zm
  try clear BS
  try clear BU
  try clear BX
  try clear BZ
  try clear B_
  try clear Lr
  try clear Ls
  try clear Lu
  try clear Lv
  try clear Lx
  try clear DX
  try clear DY
  try clear DZ
  try clear D5
  try clear D6
  try clear GR
  try clear GU
  try clear GV
  try clear GX
  try clear GY
  try clear zn
  try clear zo
  try clear zq
  try clear zu
  try clear zw
  try clear Ca
  try clear Cb
  try clear Cc
  try clear Ce
  try clear Cg
  try clear LA
  try clear LC
  try clear LD
  try clear LG
  try clear LH
  try clear D7
  try clear D8
  try clear D9
  try clear D_
  try clear Ea
  obtain ⟨kq, GI, rfl, HA, HJ2, aM, aj, HB⟩ := hcut
  cases kq with
  | zero => exact absurd HA.out (by simp [dI.j0])
  | succ iP =>
   have H := HA.out
   clear HA
   simp only [dI.j0] at H
   by_cases c20 : GI = true
   ·subst c20
    have H1 : (some 1) = some r := by rw [if_pos rfl] at H; exact H
    clear H
    have H := H1
    clear H1
    obtain rfl := Option.some.inj H
    go_wp2
    go_ret
    exact ⟨by first | rfl | (simp [aQ, aR] <;> rfl) | (simp [*, aQ, aR] <;> rfl), by repeat (first | (with_reducible first | exact HB.out | apply bA | apply pN | apply au | refine bS ?_ fq.out | refine bS ?_ fA.out) | exact HB.out)⟩
   ·replace c20 := Bool.eq_false_iff.mpr c20
    subst c20
    have H1 : (if ((gu bJ ah bK av bL aG bM aJ bN aI) = true) then (if bH.toList = ([] : List UInt8) then (if bU = true then (dI.j1 iP (!aJ) ah av aG aJ aI bJ bK bL bM bN bg bU bH bq bC bE bF bG) else (dI.j1 iP false ah av aG aJ aI bJ bK bL bM bN bg bU bH bq bC bE bF bG)) else (dI.j1 iP true ah av aG aJ aI bJ bK bL bM bN bg bU bH bq bC bE bF bG)) else (dI.j1 iP true ah av aG aJ aI bJ bK bL bM bN bg bU bH bq bC bE bF bG)) = some r := by rw [if_neg (show ¬ (false = true) by decide)] at H; exact H
    clear H
    have H := H1
    clear H1
    have LJ := am H
    clear H
    go_upto_region 3 with (fail)
    go_cut [36] (fun v36 wc => ∃ (kq : Nat) (GZ : Bool), v36 = .bool GZ ∧ bI (dI.j1 kq GZ ah av aG aJ aI bJ bK bL bM bN bg bU bH bq bC bE bF bG = some r) ∧ bI (kq ≤ iP) ∧ bI (wc.heap[eT]? = some (.cells #[.int .i64 ah, .int .i64 av, .string aG, .bool aJ, .bool aI] 29 (0, 0))) ∧ bI (wc.heap[dL]? = some (.cells #[.int .i64 bJ, .int .i64 bK, .string bL, .bool bM, .bool bN, .int .i64 bg, .bool bU, .string bH, .int .i64 bq, .int .i64 bC, .string bE, .bool bF, .bool bG] 31 (0, 0))) ∧ bI (Below w.heap.size w wc))
    case first =>
     have H := LJ.out
     clear LJ
     by_cases iQ : ((gu bJ ah bK av bL aG bM aJ bN aI) = true)
     ·rw [if_pos iQ] at H
      have sQ : (gu bJ ah bK av bL aG bM aJ bN aI) = true := iQ
      clear iQ
      (first | rw [sQ] | (simp only [dS, eZ]; rw [sQ]) | skip)
      by_cases c23 : bH.toList = ([] : List UInt8)
      ·rw [if_pos c23] at H
       have uz : (bH.toList == ([] : List UInt8)) = true := beq_iff_eq.mpr c23
       have wV : (bH.toList != ([] : List UInt8)) = false := bne_eq_false_iff_eq.mpr c23
       clear c23
       by_cases c24 : bU = true
       ·subst c24
        have H1 : (dI.j1 iP (!aJ) ah av aG aJ aI bJ bK bL bM bN bg true bH bq bC bE bF bG) = some r := by rw [if_pos rfl] at H; exact H
        clear H
        have H := H1
        clear H1
        have H' := am H
        clear H
        have aaf := jH.out
        have aag := jG.out
        have := cz aj.out 0 rfl
        have := cz aj.out 1 rfl
        have := cz aj.out 2 rfl
        have := cz aj.out 3 rfl
        have := cz aj.out 4 rfl
        have := cz aj.out 5 rfl
        have := cz aj.out 6 rfl
        have := cz aj.out 7 rfl
        have := cz aj.out 8 rfl
        have := cz aj.out 9 rfl
        have := cz aj.out 10 rfl
        have := cz aj.out 11 rfl
        have := cz aj.out 12 rfl
        have := fz aj.out 0
        have := fz aj.out 1
        have := fz aj.out 2
        have := fz aj.out 3
        have := fz aj.out 4
        have := fz aj.out 5
        have := fz aj.out 6
        have := fz aj.out 7
        have := fz aj.out 8
        have := fz aj.out 9
        have := fz aj.out 10
        have := fz aj.out 11
        have := fz aj.out 12
        have := cz aM.out 0 rfl
        have := cz aM.out 1 rfl
        have := cz aM.out 2 rfl
        have := cz aM.out 3 rfl
        have := cz aM.out 4 rfl
        have := fz aM.out 0
        have := fz aM.out 1
        have := fz aM.out 2
        have := fz aM.out 3
        have := fz aM.out 4
        go_wp2
        go_meet
        case rel => exact ⟨_, (!aJ), (by first | rfl | (simp; done) | (simp [*]; done)), H', ⟨by have := HJ2.out; first | omega | exact Nat.le_refl _⟩, ⟨by (with_reducible repeat (first | apply kN | apply kD | apply kA)); exact aM.out⟩, ⟨by (with_reducible repeat (first | apply kN | apply kD | apply kA)); exact aj.out⟩, ⟨by repeat (first | (with_reducible first | exact HB.out | apply bA | apply pN | apply au | refine bS ?_ fq.out | refine bS ?_ fA.out) | exact HB.out)⟩⟩
       ·replace c24 := Bool.eq_false_iff.mpr c24
        subst c24
        have H1 : (dI.j1 iP false ah av aG aJ aI bJ bK bL bM bN bg false bH bq bC bE bF bG) = some r := by rw [if_neg (show ¬ (false = true) by decide)] at H; exact H
        clear H
        have H := H1
        clear H1
        have H' := am H
        clear H
        have ahI := jH.out
        have ahJ := jG.out
        have := cz aj.out 0 rfl
        have := cz aj.out 1 rfl
        have := cz aj.out 2 rfl
        have := cz aj.out 3 rfl
        have := cz aj.out 4 rfl
        have := cz aj.out 5 rfl
        have := cz aj.out 6 rfl
        have := cz aj.out 7 rfl
        have := cz aj.out 8 rfl
        have := cz aj.out 9 rfl
        have := cz aj.out 10 rfl
        have := cz aj.out 11 rfl
        have := cz aj.out 12 rfl
        have := fz aj.out 0
        have := fz aj.out 1
        have := fz aj.out 2
        have := fz aj.out 3
        have := fz aj.out 4
        have := fz aj.out 5
        have := fz aj.out 6
        have := fz aj.out 7
        have := fz aj.out 8
        have := fz aj.out 9
        have := fz aj.out 10
        have := fz aj.out 11
        have := fz aj.out 12
        have := cz aM.out 0 rfl
        have := cz aM.out 1 rfl
        have := cz aM.out 2 rfl
        have := cz aM.out 3 rfl
        have := cz aM.out 4 rfl
        have := fz aM.out 0
        have := fz aM.out 1
        have := fz aM.out 2
        have := fz aM.out 3
        have := fz aM.out 4
        go_wp2
        go_meet
        case rel => exact ⟨_, (false), (by first | rfl | (simp; done) | (simp [*]; done)), H', ⟨by have := HJ2.out; first | omega | exact Nat.le_refl _⟩, ⟨by (with_reducible repeat (first | apply kN | apply kD | apply kA)); exact aM.out⟩, ⟨by (with_reducible repeat (first | apply kN | apply kD | apply kA)); exact aj.out⟩, ⟨by repeat (first | (with_reducible first | exact HB.out | apply bA | apply pN | apply au | refine bS ?_ fq.out | refine bS ?_ fA.out) | exact HB.out)⟩⟩
      ·rw [if_neg c23] at H
       have uz : (bH.toList == ([] : List UInt8)) = false := beq_eq_false_iff_ne.mpr c23
       have wV : (bH.toList != ([] : List UInt8)) = true := bne_iff_ne.mpr c23
       have H' := am H
       clear H
       have ahK := jH.out
       have ahL := jG.out
       have := cz aj.out 0 rfl
       have := cz aj.out 1 rfl
       have := cz aj.out 2 rfl
       have := cz aj.out 3 rfl
       have := cz aj.out 4 rfl
       have := cz aj.out 5 rfl
       have := cz aj.out 6 rfl
       have := cz aj.out 7 rfl
       have := cz aj.out 8 rfl
       have := cz aj.out 9 rfl
       have := cz aj.out 10 rfl
       have := cz aj.out 11 rfl
       have := cz aj.out 12 rfl
       have := fz aj.out 0
       have := fz aj.out 1
       have := fz aj.out 2
       have := fz aj.out 3
       have := fz aj.out 4
       have := fz aj.out 5
       have := fz aj.out 6
       have := fz aj.out 7
       have := fz aj.out 8
       have := fz aj.out 9
       have := fz aj.out 10
       have := fz aj.out 11
       have := fz aj.out 12
       have := cz aM.out 0 rfl
       have := cz aM.out 1 rfl
       have := cz aM.out 2 rfl
       have := cz aM.out 3 rfl
       have := cz aM.out 4 rfl
       have := fz aM.out 0
       have := fz aM.out 1
       have := fz aM.out 2
       have := fz aM.out 3
       have := fz aM.out 4
       go_wp2
       go_meet
       case rel => exact ⟨_, (true), (by first | rfl | (simp; done) | (simp [*]; done)), H', ⟨by have := HJ2.out; first | omega | exact Nat.le_refl _⟩, ⟨by (with_reducible repeat (first | apply kN | apply kD | apply kA)); exact aM.out⟩, ⟨by (with_reducible repeat (first | apply kN | apply kD | apply kA)); exact aj.out⟩, ⟨by repeat (first | (with_reducible first | exact HB.out | apply bA | apply pN | apply au | refine bS ?_ fq.out | refine bS ?_ fA.out) | exact HB.out)⟩⟩
     ·rw [if_neg iQ] at H
      have sQ : (gu bJ ah bK av bL aG bM aJ bN aI) = false := by simpa using iQ
      clear iQ
      (first | rw [sQ] | (simp only [dS, eZ]; rw [sQ]) | skip)
      have H' := am H
      clear H
      have ahM := jH.out
      have ahN := jG.out
      have := cz aj.out 0 rfl
      have := cz aj.out 1 rfl
      have := cz aj.out 2 rfl
      have := cz aj.out 3 rfl
      have := cz aj.out 4 rfl
      have := cz aj.out 5 rfl
      have := cz aj.out 6 rfl
      have := cz aj.out 7 rfl
      have := cz aj.out 8 rfl
      have := cz aj.out 9 rfl
      have := cz aj.out 10 rfl
      have := cz aj.out 11 rfl
      have := cz aj.out 12 rfl
      have := fz aj.out 0
      have := fz aj.out 1
      have := fz aj.out 2
      have := fz aj.out 3
      have := fz aj.out 4
      have := fz aj.out 5
      have := fz aj.out 6
      have := fz aj.out 7
      have := fz aj.out 8
      have := fz aj.out 9
      have := fz aj.out 10
      have := fz aj.out 11
      have := fz aj.out 12
      have := cz aM.out 0 rfl
      have := cz aM.out 1 rfl
      have := cz aM.out 2 rfl
      have := cz aM.out 3 rfl
      have := cz aM.out 4 rfl
      have := fz aM.out 0
      have := fz aM.out 1
      have := fz aM.out 2
      have := fz aM.out 3
      have := fz aM.out 4
      go_wp2
      go_meet
      case rel => exact ⟨_, (true), (by first | rfl | (simp; done) | (simp [*]; done)), H', ⟨by have := HJ2.out; first | omega | exact Nat.le_refl _⟩, ⟨by (with_reducible repeat (first | apply kN | apply kD | apply kA)); exact aM.out⟩, ⟨by (with_reducible repeat (first | apply kN | apply kD | apply kA)); exact aj.out⟩, ⟨by repeat (first | (with_reducible first | exact HB.out | apply bA | apply pN | apply au | refine bS ?_ fq.out | refine bS ?_ fA.out) | exact HB.out)⟩⟩
    case rest =>
     clear LJ
     try clear c1
     try clear c2
     try clear p2
     try clear c3
     try clear c7
     try clear iB
     try clear j5
     try clear c8
     try clear l8
     try clear l9
     try clear c9
     try clear c13
     try clear c17
     try clear c18
     try clear c20
     try clear iQ
     try clear sQ
     try clear c23
     try clear uz
     try clear wV
     try clear c24
     try clear iZ
     try clear c28
     try clear c31
     try clear c34
     try clear GJ
     try clear GK
     try clear GL
     try clear GN
     try clear GQ
     try clear zh
     try clear zi
     try clear zk
     try clear zl
     try clear zm
     try clear BS
     try clear BU
     try clear BX
     try clear BZ
     try clear B_
     try clear Lr
     try clear Ls
     try clear Lu
     try clear Lv
     try clear Lx
     try clear DX
     try clear DY
     try clear DZ
     try clear D5
     try clear D6
     try clear aah
     try clear aai
     try clear aaj
     try clear aak
     try clear aal
     try clear aam
     try clear aan
     try clear aao
     try clear aap
     try clear aaq
     try clear aar
     try clear aas
     try clear aat
     try clear aau
     try clear aav
     try clear aaw
     try clear aax
     try clear aay
     try clear aaz
     try clear aaA
     try clear aaB
     try clear aaC
     try clear aaD
     try clear aaE
     try clear aaF
     try clear aaG
     try clear aaH
     try clear aaI
     try clear aaJ
     try clear aaK
     try clear aaL
     try clear aaM
     try clear aaN
     try clear aaO
     try clear aaP
     try clear aaQ
     try clear aaR
     try clear aaS
     try clear aaT
     try clear aaU
     try clear aaV
     try clear aaW
     try clear aaX
     try clear aaY
     try clear aaZ
     try clear aa0
     try clear aa1
     try clear aa2
     try clear aa3
     try clear aa4
     try clear aa5
     try clear aa6
     try clear aa7
     try clear aa8
     try clear aa9
     try clear aa_
     try clear abb
     try clear abd
     try clear abe
     try clear abf
     try clear abg
     try clear abh
     try clear abj
     try clear abk
     try clear abl
     try clear abm
     try clear abn
     try clear abo
     try clear abp
     try clear abq
     try clear abr
     try clear abt
     try clear GR
     try clear GU
     try clear GV
     try clear GX
     try clear GY
     try clear zn
     try clear zo
     try clear zq
     try clear zu
     try clear zw
     try clear Ca
     try clear Cb
     try clear Cc
     try clear Ce
     try clear Cg
     try clear LA
     try clear LC
     try clear LD
     try clear LG
     try clear LH
     try clear D7
     try clear D8
     try clear D9
     try clear D_
     try clear Ea
     try clear abu
     try clear abv
     try clear abw
     try clear abx
     try clear aby
     try clear abz
     try clear abA
     try clear abB
     try clear abC
     try clear abD
     try clear abE
     try clear abF
     try clear abG
     try clear abH
     try clear abI
     try clear abJ
     try clear abK
     try clear abL
     try clear abM
     try clear abN
     try clear abO
     try clear abP
     try clear abQ
     try clear abR
     try clear abS
     try clear abT
     try clear abU
     try clear abV
     try clear abW
     try clear abX
     try clear abY
     try clear abZ
     try clear ab0
     try clear ab1
     try clear ab2
     try clear ab3
     try clear ab4
     try clear ab5
     try clear ab6
     try clear ab7
     try clear ab8
     try clear ab9
     try clear ab_
     try clear acd
     try clear ace
     try clear acf
     try clear acg
     try clear ach
     try clear aci
     try clear acj
     try clear acn
     try clear aco
     try clear acp
     try clear acr
     try clear acs
     try clear acu
     try clear acv
     try clear acw
     try clear acy
     try clear acz
     try clear acA
     try clear acB
     try clear acC
     try clear acD
     try clear acE
     try clear acF
     try clear acG
     try clear acH
     try clear acI
     try clear acJ
     try clear acK
     try clear acL
     try clear p2
     obtain ⟨kq, GZ, rfl, HA, RO, aM, aj, HB⟩ := hcut
     cases kq with
     | zero => exact absurd HA.out (by simp [dI.j1])
     | succ uL =>
      have H := HA.out
      clear HA
      simp only [dI.j1] at H
      by_cases c37 : GZ = true
      ·subst c37
       have H1 : (some 6) = some r := by rw [if_pos rfl] at H; exact H
       clear H
       have H := H1
       clear H1
       obtain rfl := Option.some.inj H
       go_wp2
       go_ret
       exact ⟨by first | rfl | (simp [aQ, aR] <;> rfl) | (simp [*, aQ, aR] <;> rfl), by repeat (first | (with_reducible first | exact HB.out | apply bA | apply pN | apply au | refine bS ?_ fq.out | refine bS ?_ fA.out) | exact HB.out)⟩
      ·replace c37 := Bool.eq_false_iff.mpr c37
       subst c37
       have H1 : (if ah = 4 then (if bg = 0 then ((l5.f uL bq bC bE bF bG).bind fun t251 => (if t251 = 0 then ((wQ.f bq bC bE bF bG).bind fun t252 => (if t252 = true then (some 0) else (some 6))) else (some 6))) else (some 6)) else (if ((gu bq 0 bC 0 bE (⟨#[]⟩ : ByteArray) bF false bG false) = true) then (if bU = true then (dI.j2 uL true ah av aG aJ aI bJ bK bL bM bN bg bU bH bq bC bE bF bG) else (dI.j2 uL (ah == 0) ah av aG aJ aI bJ bK bL bM bN bg bU bH bq bC bE bF bG)) else (some 6))) = some r := by rw [if_neg (show ¬ (false = true) by decide)] at H; exact H
       clear H
       have H := H1
       clear H1
       by_cases wX : ah = 4
       ·rw [if_pos wX] at H
        have RP : (ah == 4) = true := beq_iff_eq.mpr wX
        have RQ : (ah != 4) = false := bne_eq_false_iff_eq.mpr wX
        clear wX
        by_cases wY : bg = 0
        ·rw [if_pos wY] at H
         have RS : (bg == 0) = true := beq_iff_eq.mpr wY
         have RV : (bg != 0) = false := bne_eq_false_iff_eq.mpr wY
         clear wY
         replace H := Option.bind_eq_some_iff.mp H
         obtain ⟨t251, RX, H⟩ := H
         replace H : (if t251 = 0 then ((wQ.f bq bC bE bF bG).bind fun t252 => (if t252 = true then (some 0) else (some 6))) else (some 6)) = some r := H
         have kX := am RX
         clear RX
         by_cases wZ : t251 = 0
         ·rw [if_pos wZ] at H
          have RY : (t251 == 0) = true := beq_iff_eq.mpr wZ
          have RZ : (t251 != 0) = false := bne_eq_false_iff_eq.mpr wZ
          clear wZ
          replace H := Option.bind_eq_some_iff.mp H
          obtain ⟨t252, R3, H⟩ := H
          replace H : (if t252 = true then (some 0) else (some 6)) = some r := H
          have R4 := am R3
          clear R3
          by_cases Eb : t252 = true
          ·subst Eb
           have H1 : (some 0) = some r := by rw [if_pos rfl] at H; exact H
           clear H
           have H := H1
           clear H1
           obtain rfl := Option.some.inj H
           have ahO := jG.out
           have ahP := jH.out
           have := cz aM.out 0 rfl
           have := cz aM.out 1 rfl
           have := cz aM.out 2 rfl
           have := cz aM.out 3 rfl
           have := cz aM.out 4 rfl
           have := fz aM.out 0
           have := fz aM.out 1
           have := fz aM.out 2
           have := fz aM.out 3
           have := fz aM.out 4
           have := cz aj.out 0 rfl
           have := cz aj.out 1 rfl
           have := cz aj.out 2 rfl
           have := cz aj.out 3 rfl
           have := cz aj.out 4 rfl
           have := cz aj.out 5 rfl
           have := cz aj.out 6 rfl
           have := cz aj.out 7 rfl
           have := cz aj.out 8 rfl
           have := cz aj.out 9 rfl
           have := cz aj.out 10 rfl
           have := cz aj.out 11 rfl
           have := cz aj.out 12 rfl
           have := fz aj.out 0
           have := fz aj.out 1
           have := fz aj.out 2
           have := fz aj.out 3
           have := fz aj.out 4
           have := fz aj.out 5
           have := fz aj.out 6
           have := fz aj.out 7
           have := fz aj.out 8
           have := fz aj.out 9
           have := fz aj.out 10
           have := fz aj.out 11
           have := fz aj.out 12
           go_wp2_with (first | ((with_reducible refine cK (N := 5) rfl ?_); refine cO ?hg (N := 5) ?hd (cs := #[.int .i64 0, .int .i64 0, .string (⟨#[]⟩ : ByteArray), .bool false, .bool false]) (t := 29) ?hr ?_; (case hd => rfl); (case hg => rfl); (case hr => first | (go_simp; done) | (go_simp; rfl)); intro ig hg w47 aV hb; have ay := am (kB (g := eT) (o := .cells #[.int .i64 ah, .int .i64 av, .string aG, .bool aJ, .bool aI] 29 (0, 0)) (by (with_reducible repeat (first | apply kN | apply kD | apply kA)); exact aM.out) hb); have aA := am (kB (g := dL) (o := .cells #[.int .i64 bJ, .int .i64 bK, .string bL, .bool bM, .bool bN, .int .i64 bg, .bool bU, .string bH, .int .i64 bq, .int .i64 bC, .string bE, .bool bF, .bool bG] 31 (0, 0)) (by (with_reducible repeat (first | apply kN | apply kD | apply kA)); exact aj.out) hb); have aK := am (bP (by repeat (first | (with_reducible first | exact HB.out | apply bA | apply pN | apply au | refine bS ?_ fq.out | refine bS ?_ fA.out) | exact HB.out)) hb); have aU := am (aV); have dZ := am ((by rw [hg]; exact (bZ (by repeat (first | (with_reducible first | exact HB.out | apply bA | apply pN | apply au | refine bS ?_ fq.out | refine bS ?_ fA.out) | exact HB.out))) : w.heap.size ≤ ig)); have eH := am ((by rw [hg]; exact (bZ (by repeat (first | (with_reducible first | exact HB.out | apply bA | apply pN | apply au | refine bS ?_ fq.out | refine bS ?_ fA.out) | exact HB.out))) : w.heap.size ≤ ig)); have eO := am ((by rw [hg]; exact Nat.ne_of_lt (kL (g := eT) (o := .cells #[.int .i64 ah, .int .i64 av, .string aG, .bool aJ, .bool aI] 29 (0, 0)) (by (with_reducible repeat (first | apply kN | apply kD | apply kA)); exact aM.out)) : eT ≠ ig)); have j6 := am ((by rw [hg]; exact Nat.ne_of_gt (kL (g := eT) (o := .cells #[.int .i64 ah, .int .i64 av, .string aG, .bool aJ, .bool aI] 29 (0, 0)) (by (with_reducible repeat (first | apply kN | apply kD | apply kA)); exact aM.out)) : ig ≠ eT)); have kg := am ((by rw [hg]; exact Nat.ne_of_lt (kL (g := dL) (o := .cells #[.int .i64 bJ, .int .i64 bK, .string bL, .bool bM, .bool bN, .int .i64 bg, .bool bU, .string bH, .int .i64 bq, .int .i64 bC, .string bE, .bool bF, .bool bG] 31 (0, 0)) (by (with_reducible repeat (first | apply kN | apply kD | apply kA)); exact aj.out)) : dL ≠ ig)); have ko := am ((by rw [hg]; exact Nat.ne_of_gt (kL (g := dL) (o := .cells #[.int .i64 bJ, .int .i64 bK, .string bL, .bool bM, .bool bN, .int .i64 bg, .bool bU, .string bH, .int .i64 bq, .int .i64 bC, .string bE, .bool bF, .bool bG] 31 (0, 0)) (by (with_reducible repeat (first | apply kN | apply kD | apply kA)); exact aj.out)) : ig ≠ dL)); clear aM; clear aj; clear HB; have aM := ay; have aj := aA; have HB := aK; have dx := aU; have LK := dZ; have o8 := eH; have jI := eO; have zx := j6; have jJ := kg; have zy := ko; clear ay aA aK aU dZ eH eO j6 kg ko; clear hb aV hg; have ahR := zx.out; have ahS := jI.out; have acM := zy.out; have acN := jJ.out; have := cz dx.out 0 rfl; have := cz dx.out 1 rfl; have := cz dx.out 2 rfl; have := cz dx.out 3 rfl; have := cz dx.out 4 rfl; have := fz dx.out 0; have := fz dx.out 1; have := fz dx.out 2; have := fz dx.out 3; have := fz dx.out 4; have := cz aj.out 0 rfl; have := cz aj.out 1 rfl; have := cz aj.out 2 rfl; have := cz aj.out 3 rfl; have := cz aj.out 4 rfl; have := cz aj.out 5 rfl; have := cz aj.out 6 rfl; have := cz aj.out 7 rfl; have := cz aj.out 8 rfl; have := cz aj.out 9 rfl; have := cz aj.out 10 rfl; have := cz aj.out 11 rfl; have := cz aj.out 12 rfl; have := fz aj.out 0; have := fz aj.out 1; have := fz aj.out 2; have := fz aj.out 3; have := fz aj.out 4; have := fz aj.out 5; have := fz aj.out 6; have := fz aj.out 7; have := fz aj.out 8; have := fz aj.out 9; have := fz aj.out 10; have := fz aj.out 11; have := fz aj.out 12) | (go_at_call 18; (with_reducible refine (l5.calls uL bq bC bE bF bG t251 _ kX.out).mono ?_); rintro e w52 ⟨rfl, hb⟩; have ay := am (kB (g := eT) (o := .cells #[.int .i64 ah, .int .i64 av, .string aG, .bool aJ, .bool aI] 29 (0, 0)) (by (with_reducible repeat (first | apply kN | apply kD | apply kA)); refine dK ?_ jI.out _; (with_reducible repeat (first | apply kN | apply kD | apply kA)); refine dK ?_ jI.out _; (with_reducible repeat (first | apply kN | apply kD | apply kA)); refine dK ?_ jI.out _; (with_reducible repeat (first | apply kN | apply kD | apply kA)); refine dK ?_ jI.out _; (with_reducible repeat (first | apply kN | apply kD | apply kA)); refine dK ?_ jI.out _; (with_reducible repeat (first | apply kN | apply kD | apply kA)); exact aM.out) hb); have aA := am (kB (g := dL) (o := .cells #[.int .i64 bJ, .int .i64 bK, .string bL, .bool bM, .bool bN, .int .i64 bg, .bool bU, .string bH, .int .i64 bq, .int .i64 bC, .string bE, .bool bF, .bool bG] 31 (0, 0)) (by (with_reducible repeat (first | apply kN | apply kD | apply kA)); refine dK ?_ jJ.out _; (with_reducible repeat (first | apply kN | apply kD | apply kA)); refine dK ?_ jJ.out _; (with_reducible repeat (first | apply kN | apply kD | apply kA)); refine dK ?_ jJ.out _; (with_reducible repeat (first | apply kN | apply kD | apply kA)); refine dK ?_ jJ.out _; (with_reducible repeat (first | apply kN | apply kD | apply kA)); refine dK ?_ jJ.out _; (with_reducible repeat (first | apply kN | apply kD | apply kA)); exact aj.out) hb); have aK := am (kB (g := ig) (o := .cells #[.int .i64 bq, .int .i64 bC, .string bE, .bool bF, .bool bG] 29 (0, 0)) (by (with_reducible repeat (first | apply kN | apply kD | apply kA)); refine bX (cs := #[.int .i64 bq, .int .i64 bC, .string bE, .bool bF, .bool false]) ?_ 4 _ rfl; (with_reducible repeat (first | apply kN | apply kD | apply kA)); refine bX (cs := #[.int .i64 bq, .int .i64 bC, .string bE, .bool false, .bool false]) ?_ 3 _ rfl; (with_reducible repeat (first | apply kN | apply kD | apply kA)); refine bX (cs := #[.int .i64 bq, .int .i64 bC, .string (⟨#[]⟩ : ByteArray), .bool false, .bool false]) ?_ 2 _ rfl; (with_reducible repeat (first | apply kN | apply kD | apply kA)); refine bX (cs := #[.int .i64 bq, .int .i64 0, .string (⟨#[]⟩ : ByteArray), .bool false, .bool false]) ?_ 1 _ rfl; (with_reducible repeat (first | apply kN | apply kD | apply kA)); refine bX (cs := #[.int .i64 0, .int .i64 0, .string (⟨#[]⟩ : ByteArray), .bool false, .bool false]) ?_ 0 _ rfl; (with_reducible repeat (first | apply kN | apply kD | apply kA)); exact dx.out) hb); have aU := am (bP (by repeat (first | (with_reducible first | exact HB.out | apply bA | apply pN | apply au | refine bS ?_ fq.out | refine bS ?_ fA.out | refine bS ?_ o8.out) | exact HB.out)) hb); clear aM; clear aj; clear dx; clear HB; have aM := ay; have aj := aA; have dx := aK; have HB := aU; clear ay aA aK aU; (try clear hb); (try clear hb2); (try clear hk); (try clear hi); have := cz dx.out 0 rfl; have := cz dx.out 1 rfl; have := cz dx.out 2 rfl; have := cz dx.out 3 rfl; have := cz dx.out 4 rfl; have := fz dx.out 0; have := fz dx.out 1; have := fz dx.out 2; have := fz dx.out 3; have := fz dx.out 4) | (go_at_call 19; (with_reducible refine (wQ.calls bq bC bE bF bG true _ R4.out).mono ?_); rintro e w54 ⟨rfl, hb⟩; have ay := am (kB (g := eT) (o := .cells #[.int .i64 ah, .int .i64 av, .string aG, .bool aJ, .bool aI] 29 (0, 0)) (by (with_reducible repeat (first | apply kN | apply kD | apply kA)); exact aM.out) hb); have aA := am (kB (g := dL) (o := .cells #[.int .i64 bJ, .int .i64 bK, .string bL, .bool bM, .bool bN, .int .i64 bg, .bool bU, .string bH, .int .i64 bq, .int .i64 bC, .string bE, .bool bF, .bool bG] 31 (0, 0)) (by (with_reducible repeat (first | apply kN | apply kD | apply kA)); exact aj.out) hb); have aK := am (kB (g := ig) (o := .cells #[.int .i64 bq, .int .i64 bC, .string bE, .bool bF, .bool bG] 29 (0, 0)) (by (with_reducible repeat (first | apply kN | apply kD | apply kA)); exact dx.out) hb); have aU := am (bP (by repeat (first | (with_reducible first | exact HB.out | apply bA | apply pN | apply au | refine bS ?_ fq.out | refine bS ?_ fA.out | refine bS ?_ o8.out) | exact HB.out)) hb); clear aM; clear aj; clear dx; clear HB; have aM := ay; have aj := aA; have dx := aK; have HB := aU; clear ay aA aK aU; (try clear hb); (try clear hb2); (try clear hk); (try clear hi)))
           go_ret
           exact ⟨by first | rfl | (simp [aQ, aR] <;> rfl) | (simp [*, aQ, aR] <;> rfl), by repeat (first | (with_reducible first | exact HB.out | apply bA | apply pN | apply au | refine bS ?_ fq.out | refine bS ?_ fA.out | refine bS ?_ o8.out) | exact HB.out)⟩
          ·replace Eb := Bool.eq_false_iff.mpr Eb
           subst Eb
           have H1 : (some 6) = some r := by rw [if_neg (show ¬ (false = true) by decide)] at H; exact H
           clear H
           have H := H1
           clear H1
           obtain rfl := Option.some.inj H
           have ahV := jG.out
           have ahW := jH.out
           have := cz aM.out 0 rfl
           have := cz aM.out 1 rfl
           have := cz aM.out 2 rfl
           have := cz aM.out 3 rfl
           have := cz aM.out 4 rfl
           have := fz aM.out 0
           have := fz aM.out 1
           have := fz aM.out 2
           have := fz aM.out 3
           have := fz aM.out 4
           have := cz aj.out 0 rfl
           have := cz aj.out 1 rfl
           have := cz aj.out 2 rfl
           have := cz aj.out 3 rfl
           have := cz aj.out 4 rfl
           have := cz aj.out 5 rfl
           have := cz aj.out 6 rfl
           have := cz aj.out 7 rfl
           have := cz aj.out 8 rfl
           have := cz aj.out 9 rfl
           have := cz aj.out 10 rfl
           have := cz aj.out 11 rfl
           have := cz aj.out 12 rfl
           have := fz aj.out 0
           have := fz aj.out 1
           have := fz aj.out 2
           have := fz aj.out 3
           have := fz aj.out 4
           have := fz aj.out 5
           have := fz aj.out 6
           have := fz aj.out 7
           have := fz aj.out 8
           have := fz aj.out 9
           have := fz aj.out 10
           have := fz aj.out 11
           have := fz aj.out 12
           go_wp2_with (first | ((with_reducible refine cK (N := 5) rfl ?_); refine cO ?hg (N := 5) ?hd (cs := #[.int .i64 0, .int .i64 0, .string (⟨#[]⟩ : ByteArray), .bool false, .bool false]) (t := 29) ?hr ?_; (case hd => rfl); (case hg => rfl); (case hr => first | (go_simp; done) | (go_simp; rfl)); intro ig hg w58 aV hb; have ay := am (kB (g := eT) (o := .cells #[.int .i64 ah, .int .i64 av, .string aG, .bool aJ, .bool aI] 29 (0, 0)) (by (with_reducible repeat (first | apply kN | apply kD | apply kA)); exact aM.out) hb); have aA := am (kB (g := dL) (o := .cells #[.int .i64 bJ, .int .i64 bK, .string bL, .bool bM, .bool bN, .int .i64 bg, .bool bU, .string bH, .int .i64 bq, .int .i64 bC, .string bE, .bool bF, .bool bG] 31 (0, 0)) (by (with_reducible repeat (first | apply kN | apply kD | apply kA)); exact aj.out) hb); have aK := am (bP (by repeat (first | (with_reducible first | exact HB.out | apply bA | apply pN | apply au | refine bS ?_ fq.out | refine bS ?_ fA.out) | exact HB.out)) hb); have aU := am (aV); have dZ := am ((by rw [hg]; exact (bZ (by repeat (first | (with_reducible first | exact HB.out | apply bA | apply pN | apply au | refine bS ?_ fq.out | refine bS ?_ fA.out) | exact HB.out))) : w.heap.size ≤ ig)); have eH := am ((by rw [hg]; exact (bZ (by repeat (first | (with_reducible first | exact HB.out | apply bA | apply pN | apply au | refine bS ?_ fq.out | refine bS ?_ fA.out) | exact HB.out))) : w.heap.size ≤ ig)); have eO := am ((by rw [hg]; exact Nat.ne_of_lt (kL (g := eT) (o := .cells #[.int .i64 ah, .int .i64 av, .string aG, .bool aJ, .bool aI] 29 (0, 0)) (by (with_reducible repeat (first | apply kN | apply kD | apply kA)); exact aM.out)) : eT ≠ ig)); have j6 := am ((by rw [hg]; exact Nat.ne_of_gt (kL (g := eT) (o := .cells #[.int .i64 ah, .int .i64 av, .string aG, .bool aJ, .bool aI] 29 (0, 0)) (by (with_reducible repeat (first | apply kN | apply kD | apply kA)); exact aM.out)) : ig ≠ eT)); have kg := am ((by rw [hg]; exact Nat.ne_of_lt (kL (g := dL) (o := .cells #[.int .i64 bJ, .int .i64 bK, .string bL, .bool bM, .bool bN, .int .i64 bg, .bool bU, .string bH, .int .i64 bq, .int .i64 bC, .string bE, .bool bF, .bool bG] 31 (0, 0)) (by (with_reducible repeat (first | apply kN | apply kD | apply kA)); exact aj.out)) : dL ≠ ig)); have ko := am ((by rw [hg]; exact Nat.ne_of_gt (kL (g := dL) (o := .cells #[.int .i64 bJ, .int .i64 bK, .string bL, .bool bM, .bool bN, .int .i64 bg, .bool bU, .string bH, .int .i64 bq, .int .i64 bC, .string bE, .bool bF, .bool bG] 31 (0, 0)) (by (with_reducible repeat (first | apply kN | apply kD | apply kA)); exact aj.out)) : ig ≠ dL)); clear aM; clear aj; clear HB; have aM := ay; have aj := aA; have HB := aK; have dx := aU; have LK := dZ; have o8 := eH; have jI := eO; have zx := j6; have jJ := kg; have zy := ko; clear ay aA aK aU dZ eH eO j6 kg ko; clear hb aV hg; have acO := zx.out; have acP := jI.out; have ahY := zy.out; have ahZ := jJ.out; have := cz dx.out 0 rfl; have := cz dx.out 1 rfl; have := cz dx.out 2 rfl; have := cz dx.out 3 rfl; have := cz dx.out 4 rfl; have := fz dx.out 0; have := fz dx.out 1; have := fz dx.out 2; have := fz dx.out 3; have := fz dx.out 4; have := cz aj.out 0 rfl; have := cz aj.out 1 rfl; have := cz aj.out 2 rfl; have := cz aj.out 3 rfl; have := cz aj.out 4 rfl; have := cz aj.out 5 rfl; have := cz aj.out 6 rfl; have := cz aj.out 7 rfl; have := cz aj.out 8 rfl; have := cz aj.out 9 rfl; have := cz aj.out 10 rfl; have := cz aj.out 11 rfl; have := cz aj.out 12 rfl; have := fz aj.out 0; have := fz aj.out 1; have := fz aj.out 2; have := fz aj.out 3; have := fz aj.out 4; have := fz aj.out 5; have := fz aj.out 6; have := fz aj.out 7; have := fz aj.out 8; have := fz aj.out 9; have := fz aj.out 10; have := fz aj.out 11; have := fz aj.out 12) | (go_at_call 18; (with_reducible refine (l5.calls uL bq bC bE bF bG t251 _ kX.out).mono ?_); rintro e w63 ⟨rfl, hb⟩; have ay := am (kB (g := eT) (o := .cells #[.int .i64 ah, .int .i64 av, .string aG, .bool aJ, .bool aI] 29 (0, 0)) (by (with_reducible repeat (first | apply kN | apply kD | apply kA)); refine dK ?_ jI.out _; (with_reducible repeat (first | apply kN | apply kD | apply kA)); refine dK ?_ jI.out _; (with_reducible repeat (first | apply kN | apply kD | apply kA)); refine dK ?_ jI.out _; (with_reducible repeat (first | apply kN | apply kD | apply kA)); refine dK ?_ jI.out _; (with_reducible repeat (first | apply kN | apply kD | apply kA)); refine dK ?_ jI.out _; (with_reducible repeat (first | apply kN | apply kD | apply kA)); exact aM.out) hb); have aA := am (kB (g := dL) (o := .cells #[.int .i64 bJ, .int .i64 bK, .string bL, .bool bM, .bool bN, .int .i64 bg, .bool bU, .string bH, .int .i64 bq, .int .i64 bC, .string bE, .bool bF, .bool bG] 31 (0, 0)) (by (with_reducible repeat (first | apply kN | apply kD | apply kA)); refine dK ?_ jJ.out _; (with_reducible repeat (first | apply kN | apply kD | apply kA)); refine dK ?_ jJ.out _; (with_reducible repeat (first | apply kN | apply kD | apply kA)); refine dK ?_ jJ.out _; (with_reducible repeat (first | apply kN | apply kD | apply kA)); refine dK ?_ jJ.out _; (with_reducible repeat (first | apply kN | apply kD | apply kA)); refine dK ?_ jJ.out _; (with_reducible repeat (first | apply kN | apply kD | apply kA)); exact aj.out) hb); have aK := am (kB (g := ig) (o := .cells #[.int .i64 bq, .int .i64 bC, .string bE, .bool bF, .bool bG] 29 (0, 0)) (by (with_reducible repeat (first | apply kN | apply kD | apply kA)); refine bX (cs := #[.int .i64 bq, .int .i64 bC, .string bE, .bool bF, .bool false]) ?_ 4 _ rfl; (with_reducible repeat (first | apply kN | apply kD | apply kA)); refine bX (cs := #[.int .i64 bq, .int .i64 bC, .string bE, .bool false, .bool false]) ?_ 3 _ rfl; (with_reducible repeat (first | apply kN | apply kD | apply kA)); refine bX (cs := #[.int .i64 bq, .int .i64 bC, .string (⟨#[]⟩ : ByteArray), .bool false, .bool false]) ?_ 2 _ rfl; (with_reducible repeat (first | apply kN | apply kD | apply kA)); refine bX (cs := #[.int .i64 bq, .int .i64 0, .string (⟨#[]⟩ : ByteArray), .bool false, .bool false]) ?_ 1 _ rfl; (with_reducible repeat (first | apply kN | apply kD | apply kA)); refine bX (cs := #[.int .i64 0, .int .i64 0, .string (⟨#[]⟩ : ByteArray), .bool false, .bool false]) ?_ 0 _ rfl; (with_reducible repeat (first | apply kN | apply kD | apply kA)); exact dx.out) hb); have aU := am (bP (by repeat (first | (with_reducible first | exact HB.out | apply bA | apply pN | apply au | refine bS ?_ fq.out | refine bS ?_ fA.out | refine bS ?_ o8.out) | exact HB.out)) hb); clear aM; clear aj; clear dx; clear HB; have aM := ay; have aj := aA; have dx := aK; have HB := aU; clear ay aA aK aU; (try clear hb); (try clear hb2); (try clear hk); (try clear hi); have := cz dx.out 0 rfl; have := cz dx.out 1 rfl; have := cz dx.out 2 rfl; have := cz dx.out 3 rfl; have := cz dx.out 4 rfl; have := fz dx.out 0; have := fz dx.out 1; have := fz dx.out 2; have := fz dx.out 3; have := fz dx.out 4) | (go_at_call 19; (with_reducible refine (wQ.calls bq bC bE bF bG false _ R4.out).mono ?_); rintro e w65 ⟨rfl, hb⟩; have ay := am (kB (g := eT) (o := .cells #[.int .i64 ah, .int .i64 av, .string aG, .bool aJ, .bool aI] 29 (0, 0)) (by (with_reducible repeat (first | apply kN | apply kD | apply kA)); exact aM.out) hb); have aA := am (kB (g := dL) (o := .cells #[.int .i64 bJ, .int .i64 bK, .string bL, .bool bM, .bool bN, .int .i64 bg, .bool bU, .string bH, .int .i64 bq, .int .i64 bC, .string bE, .bool bF, .bool bG] 31 (0, 0)) (by (with_reducible repeat (first | apply kN | apply kD | apply kA)); exact aj.out) hb); have aK := am (kB (g := ig) (o := .cells #[.int .i64 bq, .int .i64 bC, .string bE, .bool bF, .bool bG] 29 (0, 0)) (by (with_reducible repeat (first | apply kN | apply kD | apply kA)); exact dx.out) hb); have aU := am (bP (by repeat (first | (with_reducible first | exact HB.out | apply bA | apply pN | apply au | refine bS ?_ fq.out | refine bS ?_ fA.out | refine bS ?_ o8.out) | exact HB.out)) hb); clear aM; clear aj; clear dx; clear HB; have aM := ay; have aj := aA; have dx := aK; have HB := aU; clear ay aA aK aU; (try clear hb); (try clear hb2); (try clear hk); (try clear hi)))
           go_ret
           exact ⟨by first | rfl | (simp [aQ, aR] <;> rfl) | (simp [*, aQ, aR] <;> rfl), by repeat (first | (with_reducible first | exact HB.out | apply bA | apply pN | apply au | refine bS ?_ fq.out | refine bS ?_ fA.out | refine bS ?_ o8.out) | exact HB.out)⟩
         ·rw [if_neg wZ] at H
          have RY : (t251 == 0) = false := beq_eq_false_iff_ne.mpr wZ
          have RZ : (t251 != 0) = true := bne_iff_ne.mpr wZ
          obtain rfl := Option.some.inj H
          have acQ := jG.out
          have acR := jH.out
          have := cz aM.out 0 rfl
          have := cz aM.out 1 rfl
          have := cz aM.out 2 rfl
          have := cz aM.out 3 rfl
          have := cz aM.out 4 rfl
          have := fz aM.out 0
          have := fz aM.out 1
          have := fz aM.out 2
          have := fz aM.out 3
          have := fz aM.out 4
          have := cz aj.out 0 rfl
          have := cz aj.out 1 rfl
          have := cz aj.out 2 rfl
          have := cz aj.out 3 rfl
          have := cz aj.out 4 rfl
          have := cz aj.out 5 rfl
          have := cz aj.out 6 rfl
          have := cz aj.out 7 rfl
          have := cz aj.out 8 rfl
          have := cz aj.out 9 rfl
          have := cz aj.out 10 rfl
          have := cz aj.out 11 rfl
          have := cz aj.out 12 rfl
          have := fz aj.out 0
          have := fz aj.out 1
          have := fz aj.out 2
          have := fz aj.out 3
          have := fz aj.out 4
          have := fz aj.out 5
          have := fz aj.out 6
          have := fz aj.out 7
          have := fz aj.out 8
          have := fz aj.out 9
          have := fz aj.out 10
          have := fz aj.out 11
          have := fz aj.out 12
          go_wp2_with (first | ((with_reducible refine cK (N := 5) rfl ?_); refine cO ?hg (N := 5) ?hd (cs := #[.int .i64 0, .int .i64 0, .string (⟨#[]⟩ : ByteArray), .bool false, .bool false]) (t := 29) ?hr ?_; (case hd => rfl); (case hg => rfl); (case hr => first | (go_simp; done) | (go_simp; rfl)); intro ig hg w69 aV hb; have ay := am (kB (g := eT) (o := .cells #[.int .i64 ah, .int .i64 av, .string aG, .bool aJ, .bool aI] 29 (0, 0)) (by (with_reducible repeat (first | apply kN | apply kD | apply kA)); exact aM.out) hb); have aA := am (kB (g := dL) (o := .cells #[.int .i64 bJ, .int .i64 bK, .string bL, .bool bM, .bool bN, .int .i64 bg, .bool bU, .string bH, .int .i64 bq, .int .i64 bC, .string bE, .bool bF, .bool bG] 31 (0, 0)) (by (with_reducible repeat (first | apply kN | apply kD | apply kA)); exact aj.out) hb); have aK := am (bP (by repeat (first | (with_reducible first | exact HB.out | apply bA | apply pN | apply au | refine bS ?_ fq.out | refine bS ?_ fA.out) | exact HB.out)) hb); have aU := am (aV); have dZ := am ((by rw [hg]; exact (bZ (by repeat (first | (with_reducible first | exact HB.out | apply bA | apply pN | apply au | refine bS ?_ fq.out | refine bS ?_ fA.out) | exact HB.out))) : w.heap.size ≤ ig)); have eH := am ((by rw [hg]; exact (bZ (by repeat (first | (with_reducible first | exact HB.out | apply bA | apply pN | apply au | refine bS ?_ fq.out | refine bS ?_ fA.out) | exact HB.out))) : w.heap.size ≤ ig)); have eO := am ((by rw [hg]; exact Nat.ne_of_lt (kL (g := eT) (o := .cells #[.int .i64 ah, .int .i64 av, .string aG, .bool aJ, .bool aI] 29 (0, 0)) (by (with_reducible repeat (first | apply kN | apply kD | apply kA)); exact aM.out)) : eT ≠ ig)); have j6 := am ((by rw [hg]; exact Nat.ne_of_gt (kL (g := eT) (o := .cells #[.int .i64 ah, .int .i64 av, .string aG, .bool aJ, .bool aI] 29 (0, 0)) (by (with_reducible repeat (first | apply kN | apply kD | apply kA)); exact aM.out)) : ig ≠ eT)); have kg := am ((by rw [hg]; exact Nat.ne_of_lt (kL (g := dL) (o := .cells #[.int .i64 bJ, .int .i64 bK, .string bL, .bool bM, .bool bN, .int .i64 bg, .bool bU, .string bH, .int .i64 bq, .int .i64 bC, .string bE, .bool bF, .bool bG] 31 (0, 0)) (by (with_reducible repeat (first | apply kN | apply kD | apply kA)); exact aj.out)) : dL ≠ ig)); have ko := am ((by rw [hg]; exact Nat.ne_of_gt (kL (g := dL) (o := .cells #[.int .i64 bJ, .int .i64 bK, .string bL, .bool bM, .bool bN, .int .i64 bg, .bool bU, .string bH, .int .i64 bq, .int .i64 bC, .string bE, .bool bF, .bool bG] 31 (0, 0)) (by (with_reducible repeat (first | apply kN | apply kD | apply kA)); exact aj.out)) : ig ≠ dL)); clear aM; clear aj; clear HB; have aM := ay; have aj := aA; have HB := aK; have dx := aU; have LK := dZ; have o8 := eH; have jI := eO; have zx := j6; have jJ := kg; have zy := ko; clear ay aA aK aU dZ eH eO j6 kg ko; clear hb aV hg; have acT := zx.out; have acU := jI.out; have ah2 := zy.out; have ah3 := jJ.out; have := cz dx.out 0 rfl; have := cz dx.out 1 rfl; have := cz dx.out 2 rfl; have := cz dx.out 3 rfl; have := cz dx.out 4 rfl; have := fz dx.out 0; have := fz dx.out 1; have := fz dx.out 2; have := fz dx.out 3; have := fz dx.out 4; have := cz aj.out 0 rfl; have := cz aj.out 1 rfl; have := cz aj.out 2 rfl; have := cz aj.out 3 rfl; have := cz aj.out 4 rfl; have := cz aj.out 5 rfl; have := cz aj.out 6 rfl; have := cz aj.out 7 rfl; have := cz aj.out 8 rfl; have := cz aj.out 9 rfl; have := cz aj.out 10 rfl; have := cz aj.out 11 rfl; have := cz aj.out 12 rfl; have := fz aj.out 0; have := fz aj.out 1; have := fz aj.out 2; have := fz aj.out 3; have := fz aj.out 4; have := fz aj.out 5; have := fz aj.out 6; have := fz aj.out 7; have := fz aj.out 8; have := fz aj.out 9; have := fz aj.out 10; have := fz aj.out 11; have := fz aj.out 12) | (go_at_call 18; (with_reducible refine (l5.calls uL bq bC bE bF bG t251 _ kX.out).mono ?_); rintro e w74 ⟨rfl, hb⟩; have ay := am (kB (g := eT) (o := .cells #[.int .i64 ah, .int .i64 av, .string aG, .bool aJ, .bool aI] 29 (0, 0)) (by (with_reducible repeat (first | apply kN | apply kD | apply kA)); refine dK ?_ jI.out _; (with_reducible repeat (first | apply kN | apply kD | apply kA)); refine dK ?_ jI.out _; (with_reducible repeat (first | apply kN | apply kD | apply kA)); refine dK ?_ jI.out _; (with_reducible repeat (first | apply kN | apply kD | apply kA)); refine dK ?_ jI.out _; (with_reducible repeat (first | apply kN | apply kD | apply kA)); refine dK ?_ jI.out _; (with_reducible repeat (first | apply kN | apply kD | apply kA)); exact aM.out) hb); have aA := am (kB (g := dL) (o := .cells #[.int .i64 bJ, .int .i64 bK, .string bL, .bool bM, .bool bN, .int .i64 bg, .bool bU, .string bH, .int .i64 bq, .int .i64 bC, .string bE, .bool bF, .bool bG] 31 (0, 0)) (by (with_reducible repeat (first | apply kN | apply kD | apply kA)); refine dK ?_ jJ.out _; (with_reducible repeat (first | apply kN | apply kD | apply kA)); refine dK ?_ jJ.out _; (with_reducible repeat (first | apply kN | apply kD | apply kA)); refine dK ?_ jJ.out _; (with_reducible repeat (first | apply kN | apply kD | apply kA)); refine dK ?_ jJ.out _; (with_reducible repeat (first | apply kN | apply kD | apply kA)); refine dK ?_ jJ.out _; (with_reducible repeat (first | apply kN | apply kD | apply kA)); exact aj.out) hb); have aK := am (kB (g := ig) (o := .cells #[.int .i64 bq, .int .i64 bC, .string bE, .bool bF, .bool bG] 29 (0, 0)) (by (with_reducible repeat (first | apply kN | apply kD | apply kA)); refine bX (cs := #[.int .i64 bq, .int .i64 bC, .string bE, .bool bF, .bool false]) ?_ 4 _ rfl; (with_reducible repeat (first | apply kN | apply kD | apply kA)); refine bX (cs := #[.int .i64 bq, .int .i64 bC, .string bE, .bool false, .bool false]) ?_ 3 _ rfl; (with_reducible repeat (first | apply kN | apply kD | apply kA)); refine bX (cs := #[.int .i64 bq, .int .i64 bC, .string (⟨#[]⟩ : ByteArray), .bool false, .bool false]) ?_ 2 _ rfl; (with_reducible repeat (first | apply kN | apply kD | apply kA)); refine bX (cs := #[.int .i64 bq, .int .i64 0, .string (⟨#[]⟩ : ByteArray), .bool false, .bool false]) ?_ 1 _ rfl; (with_reducible repeat (first | apply kN | apply kD | apply kA)); refine bX (cs := #[.int .i64 0, .int .i64 0, .string (⟨#[]⟩ : ByteArray), .bool false, .bool false]) ?_ 0 _ rfl; (with_reducible repeat (first | apply kN | apply kD | apply kA)); exact dx.out) hb); have aU := am (bP (by repeat (first | (with_reducible first | exact HB.out | apply bA | apply pN | apply au | refine bS ?_ fq.out | refine bS ?_ fA.out | refine bS ?_ o8.out) | exact HB.out)) hb); clear aM; clear aj; clear dx; clear HB; have aM := ay; have aj := aA; have dx := aK; have HB := aU; clear ay aA aK aU; (try clear hb); (try clear hb2); (try clear hk); (try clear hi)))
          go_ret
          exact ⟨by first | rfl | (simp [aQ, aR] <;> rfl) | (simp [*, aQ, aR] <;> rfl), by repeat (first | (with_reducible first | exact HB.out | apply bA | apply pN | apply au | refine bS ?_ fq.out | refine bS ?_ fA.out | refine bS ?_ o8.out) | exact HB.out)⟩
        ·rw [if_neg wY] at H
         have RS : (bg == 0) = false := beq_eq_false_iff_ne.mpr wY
         have RV : (bg != 0) = true := bne_iff_ne.mpr wY
         obtain rfl := Option.some.inj H
         have ah5 := jG.out
         have ah6 := jH.out
         have := cz aM.out 0 rfl
         have := cz aM.out 1 rfl
         have := cz aM.out 2 rfl
         have := cz aM.out 3 rfl
         have := cz aM.out 4 rfl
         have := fz aM.out 0
         have := fz aM.out 1
         have := fz aM.out 2
         have := fz aM.out 3
         have := fz aM.out 4
         have := cz aj.out 0 rfl
         have := cz aj.out 1 rfl
         have := cz aj.out 2 rfl
         have := cz aj.out 3 rfl
         have := cz aj.out 4 rfl
         have := cz aj.out 5 rfl
         have := cz aj.out 6 rfl
         have := cz aj.out 7 rfl
         have := cz aj.out 8 rfl
         have := cz aj.out 9 rfl
         have := cz aj.out 10 rfl
         have := cz aj.out 11 rfl
         have := cz aj.out 12 rfl
         have := fz aj.out 0
         have := fz aj.out 1
         have := fz aj.out 2
         have := fz aj.out 3
         have := fz aj.out 4
         have := fz aj.out 5
         have := fz aj.out 6
         have := fz aj.out 7
         have := fz aj.out 8
         have := fz aj.out 9
         have := fz aj.out 10
         have := fz aj.out 11
         have := fz aj.out 12
         go_wp2_with (first | ((with_reducible refine cK (N := 5) rfl ?_); refine cO ?hg (N := 5) ?hd (cs := #[.int .i64 0, .int .i64 0, .string (⟨#[]⟩ : ByteArray), .bool false, .bool false]) (t := 29) ?hr ?_; (case hd => rfl); (case hg => rfl); (case hr => first | (go_simp; done) | (go_simp; rfl)); intro ig hg w78 aV hb; have ay := am (kB (g := eT) (o := .cells #[.int .i64 ah, .int .i64 av, .string aG, .bool aJ, .bool aI] 29 (0, 0)) (by (with_reducible repeat (first | apply kN | apply kD | apply kA)); exact aM.out) hb); have aA := am (kB (g := dL) (o := .cells #[.int .i64 bJ, .int .i64 bK, .string bL, .bool bM, .bool bN, .int .i64 bg, .bool bU, .string bH, .int .i64 bq, .int .i64 bC, .string bE, .bool bF, .bool bG] 31 (0, 0)) (by (with_reducible repeat (first | apply kN | apply kD | apply kA)); exact aj.out) hb); have aK := am (bP (by repeat (first | (with_reducible first | exact HB.out | apply bA | apply pN | apply au | refine bS ?_ fq.out | refine bS ?_ fA.out) | exact HB.out)) hb); have aU := am (aV); have dZ := am ((by rw [hg]; exact (bZ (by repeat (first | (with_reducible first | exact HB.out | apply bA | apply pN | apply au | refine bS ?_ fq.out | refine bS ?_ fA.out) | exact HB.out))) : w.heap.size ≤ ig)); have eH := am ((by rw [hg]; exact (bZ (by repeat (first | (with_reducible first | exact HB.out | apply bA | apply pN | apply au | refine bS ?_ fq.out | refine bS ?_ fA.out) | exact HB.out))) : w.heap.size ≤ ig)); have eO := am ((by rw [hg]; exact Nat.ne_of_lt (kL (g := eT) (o := .cells #[.int .i64 ah, .int .i64 av, .string aG, .bool aJ, .bool aI] 29 (0, 0)) (by (with_reducible repeat (first | apply kN | apply kD | apply kA)); exact aM.out)) : eT ≠ ig)); have j6 := am ((by rw [hg]; exact Nat.ne_of_gt (kL (g := eT) (o := .cells #[.int .i64 ah, .int .i64 av, .string aG, .bool aJ, .bool aI] 29 (0, 0)) (by (with_reducible repeat (first | apply kN | apply kD | apply kA)); exact aM.out)) : ig ≠ eT)); have kg := am ((by rw [hg]; exact Nat.ne_of_lt (kL (g := dL) (o := .cells #[.int .i64 bJ, .int .i64 bK, .string bL, .bool bM, .bool bN, .int .i64 bg, .bool bU, .string bH, .int .i64 bq, .int .i64 bC, .string bE, .bool bF, .bool bG] 31 (0, 0)) (by (with_reducible repeat (first | apply kN | apply kD | apply kA)); exact aj.out)) : dL ≠ ig)); have ko := am ((by rw [hg]; exact Nat.ne_of_gt (kL (g := dL) (o := .cells #[.int .i64 bJ, .int .i64 bK, .string bL, .bool bM, .bool bN, .int .i64 bg, .bool bU, .string bH, .int .i64 bq, .int .i64 bC, .string bE, .bool bF, .bool bG] 31 (0, 0)) (by (with_reducible repeat (first | apply kN | apply kD | apply kA)); exact aj.out)) : ig ≠ dL)); clear aM; clear aj; clear HB; have aM := ay; have aj := aA; have HB := aK; have dx := aU; have LK := dZ; have o8 := eH; have jI := eO; have zx := j6; have jJ := kg; have zy := ko; clear ay aA aK aU dZ eH eO j6 kg ko; clear hb aV hg; have ah8 := zx.out; have ah9 := jI.out; have ah_ := zy.out; have aia := jJ.out; have := cz dx.out 0 rfl; have := cz dx.out 1 rfl; have := cz dx.out 2 rfl; have := cz dx.out 3 rfl; have := cz dx.out 4 rfl; have := fz dx.out 0; have := fz dx.out 1; have := fz dx.out 2; have := fz dx.out 3; have := fz dx.out 4; have := cz aj.out 0 rfl; have := cz aj.out 1 rfl; have := cz aj.out 2 rfl; have := cz aj.out 3 rfl; have := cz aj.out 4 rfl; have := cz aj.out 5 rfl; have := cz aj.out 6 rfl; have := cz aj.out 7 rfl; have := cz aj.out 8 rfl; have := cz aj.out 9 rfl; have := cz aj.out 10 rfl; have := cz aj.out 11 rfl; have := cz aj.out 12 rfl; have := fz aj.out 0; have := fz aj.out 1; have := fz aj.out 2; have := fz aj.out 3; have := fz aj.out 4; have := fz aj.out 5; have := fz aj.out 6; have := fz aj.out 7; have := fz aj.out 8; have := fz aj.out 9; have := fz aj.out 10; have := fz aj.out 11; have := fz aj.out 12))
         go_ret
         exact ⟨by first | rfl | (simp [aQ, aR] <;> rfl) | (simp [*, aQ, aR] <;> rfl), by repeat (first | (with_reducible first | exact HB.out | apply bA | apply pN | apply au | refine bS ?_ fq.out | refine bS ?_ fA.out | refine bS ?_ o8.out) | exact HB.out)⟩
       ·rw [if_neg wX] at H
        have RP : (ah == 4) = false := beq_eq_false_iff_ne.mpr wX
        have RQ : (ah != 4) = true := bne_iff_ne.mpr wX
        by_cases zA : ((gu bq 0 bC 0 bE (⟨#[]⟩ : ByteArray) bF false bG false) = true)
        ·rw [if_pos zA] at H
         have R5 : (gu bq 0 bC 0 bE (⟨#[]⟩ : ByteArray) bF false bG false) = true := zA
         clear zA
         have LM := am H
         clear H
         have aib := jG.out
         have aic := jH.out
         have := cz aM.out 0 rfl
         have := cz aM.out 1 rfl
         have := cz aM.out 2 rfl
         have := cz aM.out 3 rfl
         have := cz aM.out 4 rfl
         have := fz aM.out 0
         have := fz aM.out 1
         have := fz aM.out 2
         have := fz aM.out 3
         have := fz aM.out 4
         have := cz aj.out 0 rfl
         have := cz aj.out 1 rfl
         have := cz aj.out 2 rfl
         have := cz aj.out 3 rfl
         have := cz aj.out 4 rfl
         have := cz aj.out 5 rfl
         have := cz aj.out 6 rfl
         have := cz aj.out 7 rfl
         have := cz aj.out 8 rfl
         have := cz aj.out 9 rfl
         have := cz aj.out 10 rfl
         have := cz aj.out 11 rfl
         have := cz aj.out 12 rfl
         have := fz aj.out 0
         have := fz aj.out 1
         have := fz aj.out 2
         have := fz aj.out 3
         have := fz aj.out 4
         have := fz aj.out 5
         have := fz aj.out 6
         have := fz aj.out 7
         have := fz aj.out 8
         have := fz aj.out 9
         have := fz aj.out 10
         have := fz aj.out 11
         have := fz aj.out 12
         go_upto_region 14 with (fail)
         go_cut [64] (fun v64 wc => ∃ (kq : Nat) (G5 : Bool), v64 = .bool G5 ∧ bI (dI.j2 kq G5 ah av aG aJ aI bJ bK bL bM bN bg bU bH bq bC bE bF bG = some r) ∧ bI (kq ≤ uL) ∧ bI (wc.heap[eT]? = some (.cells #[.int .i64 ah, .int .i64 av, .string aG, .bool aJ, .bool aI] 29 (0, 0))) ∧ bI (wc.heap[dL]? = some (.cells #[.int .i64 bJ, .int .i64 bK, .string bL, .bool bM, .bool bN, .int .i64 bg, .bool bU, .string bH, .int .i64 bq, .int .i64 bC, .string bE, .bool bF, .bool bG] 31 (0, 0))) ∧ bI (Below w.heap.size w wc))
         case first =>
          have H := LM.out
          clear LM
          by_cases Ec : bU = true
          ·subst Ec
           have H1 : (dI.j2 uL true ah av aG aJ aI bJ bK bL bM bN bg true bH bq bC bE bF bG) = some r := by rw [if_pos rfl] at H; exact H
           clear H
           have H := H1
           clear H1
           have H' := am H
           clear H
           have aie := jH.out
           have aif := jG.out
           have := cz aj.out 0 rfl
           have := cz aj.out 1 rfl
           have := cz aj.out 2 rfl
           have := cz aj.out 3 rfl
           have := cz aj.out 4 rfl
           have := cz aj.out 5 rfl
           have := cz aj.out 6 rfl
           have := cz aj.out 7 rfl
           have := cz aj.out 8 rfl
           have := cz aj.out 9 rfl
           have := cz aj.out 10 rfl
           have := cz aj.out 11 rfl
           have := cz aj.out 12 rfl
           have := fz aj.out 0
           have := fz aj.out 1
           have := fz aj.out 2
           have := fz aj.out 3
           have := fz aj.out 4
           have := fz aj.out 5
           have := fz aj.out 6
           have := fz aj.out 7
           have := fz aj.out 8
           have := fz aj.out 9
           have := fz aj.out 10
           have := fz aj.out 11
           have := fz aj.out 12
           go_wp2
           go_meet
           case rel => exact ⟨_, (true), (by first | rfl | (simp; done) | (simp [*]; done)), H', ⟨by have := HJ2.out; have := RO.out; first | omega | exact Nat.le_refl _⟩, ⟨by (with_reducible repeat (first | apply kN | apply kD | apply kA)); exact aM.out⟩, ⟨by (with_reducible repeat (first | apply kN | apply kD | apply kA)); exact aj.out⟩, ⟨by repeat (first | (with_reducible first | exact HB.out | apply bA | apply pN | apply au | refine bS ?_ fq.out | refine bS ?_ fA.out) | exact HB.out)⟩⟩
          ·replace Ec := Bool.eq_false_iff.mpr Ec
           subst Ec
           have H1 : (dI.j2 uL (ah == 0) ah av aG aJ aI bJ bK bL bM bN bg false bH bq bC bE bF bG) = some r := by rw [if_neg (show ¬ (false = true) by decide)] at H; exact H
           clear H
           have H := H1
           clear H1
           have H' := am H
           clear H
           have aii := jH.out
           have aij := jG.out
           have := cz aj.out 0 rfl
           have := cz aj.out 1 rfl
           have := cz aj.out 2 rfl
           have := cz aj.out 3 rfl
           have := cz aj.out 4 rfl
           have := cz aj.out 5 rfl
           have := cz aj.out 6 rfl
           have := cz aj.out 7 rfl
           have := cz aj.out 8 rfl
           have := cz aj.out 9 rfl
           have := cz aj.out 10 rfl
           have := cz aj.out 11 rfl
           have := cz aj.out 12 rfl
           have := fz aj.out 0
           have := fz aj.out 1
           have := fz aj.out 2
           have := fz aj.out 3
           have := fz aj.out 4
           have := fz aj.out 5
           have := fz aj.out 6
           have := fz aj.out 7
           have := fz aj.out 8
           have := fz aj.out 9
           have := fz aj.out 10
           have := fz aj.out 11
           have := fz aj.out 12
           have := cz aM.out 0 rfl
           have := cz aM.out 1 rfl
           have := cz aM.out 2 rfl
           have := cz aM.out 3 rfl
           have := cz aM.out 4 rfl
           have := fz aM.out 0
           have := fz aM.out 1
           have := fz aM.out 2
           have := fz aM.out 3
           have := fz aM.out 4
           go_wp2
           go_meet
           case rel => exact ⟨_, ((ah == 0)), (by first | rfl | (simp; done) | (simp [*]; done)), H', ⟨by have := HJ2.out; have := RO.out; first | omega | exact Nat.le_refl _⟩, ⟨by (with_reducible repeat (first | apply kN | apply kD | apply kA)); exact aM.out⟩, ⟨by (with_reducible repeat (first | apply kN | apply kD | apply kA)); exact aj.out⟩, ⟨by repeat (first | (with_reducible first | exact HB.out | apply bA | apply pN | apply au | refine bS ?_ fq.out | refine bS ?_ fA.out) | exact HB.out)⟩⟩
         case rest =>
          clear LM
          try clear c1
          try clear c2
          try clear p2
          try clear c3
          try clear c4
          try clear c5
          try clear c6
          try clear c7
          try clear iB
          try clear j5
          try clear c8
          try clear l8
          try clear l9
          try clear c9
          try clear c13
          try clear c17
          try clear c18
          try clear c20
          try clear iQ
          try clear sQ
          try clear c23
          try clear uz
          try clear wV
          try clear c24
          try clear iZ
          try clear c28
          try clear c31
          try clear c34
          try clear c37
          try clear wX
          try clear RP
          try clear RQ
          try clear wY
          try clear RS
          try clear RV
          try clear wZ
          try clear RY
          try clear RZ
          try clear Eb
          try clear c44
          try clear c48
          try clear c49
          try clear c55
          try clear c59
          try clear c60
          try clear c66
          try clear c70
          try clear c71
          try clear c75
          try clear c79
          try clear c80
          try clear zA
          try clear R5
          try clear c85
          try clear Ec
          try clear c89
          try clear c91
          try clear GJ
          try clear GK
          try clear GL
          try clear GN
          try clear GQ
          try clear zh
          try clear zi
          try clear zk
          try clear zl
          try clear zm
          try clear BS
          try clear BU
          try clear BX
          try clear BZ
          try clear B_
          try clear Lr
          try clear Ls
          try clear Lu
          try clear Lv
          try clear Lx
          try clear DX
          try clear DY
          try clear DZ
          try clear D5
          try clear D6
          try clear aah
          try clear aai
          try clear aaj
          try clear aak
          try clear aal
          try clear aam
          try clear aan
          try clear aao
          try clear aap
          try clear aaq
          try clear aar
          try clear aas
          try clear aat
          try clear aau
          try clear aav
          try clear aaw
          try clear aax
          try clear aay
          try clear aaz
          try clear aaA
          try clear aaB
          try clear aaC
          try clear aaD
          try clear aaE
          try clear aaF
          try clear aaG
          try clear aaH
          try clear aaI
          try clear aaJ
          try clear aaK
          try clear aaL
          try clear aaM
          try clear aaN
          try clear aaO
          try clear aaP
          try clear aaQ
          try clear aaR
          try clear aaS
          try clear aaT
          try clear aaU
          try clear aaV
          try clear aaW
          try clear aaX
          try clear aaY
          try clear aaZ
          try clear aa0
          try clear aa1
          try clear aa2
          try clear aa3
          try clear aa4
          try clear aa5
          try clear aa6
          try clear aa7
          try clear aa8
          try clear aa9
          try clear aa_
          try clear abb
          try clear abd
          try clear abe
          try clear abf
          try clear abg
          try clear abh
          try clear abj
          try clear abk
          try clear abl
          try clear abm
          try clear abn
          try clear abo
          try clear abp
          try clear abq
          try clear abr
          try clear abt
          try clear ait
          try clear aiu
          try clear aiv
          try clear aiw
          try clear aix
          try clear aiy
          try clear aiz
          try clear aiA
          try clear aiB
          try clear aiC
          try clear aiD
          try clear aiE
          try clear aiF
          try clear aiG
          try clear aiH
          try clear aiI
          try clear aiJ
          try clear aiK
          try clear aiL
          try clear aiM
          try clear aiN
          try clear aiO
          try clear aiP
          try clear aiQ
          try clear aiR
          try clear aiS
          try clear aiT
          try clear aiU
          try clear aiV
          try clear aiW
          try clear aiX
          try clear aiY
          try clear aiZ
          try clear ai0
          try clear ai1
          try clear ai2
          try clear ai3
          try clear ai4
          try clear ai5
          try clear ai6
          try clear ai7
          try clear ai8
          try clear ai9
          try clear ai_
          try clear aja
          try clear ajb
          try clear ajc
          try clear ajd
          try clear aje
          try clear ajf
          try clear ajg
          try clear ajh
          try clear aji
          try clear ajj
          try clear ajk
          try clear ajl
          try clear ajm
          try clear ajn
          try clear ajo
          try clear ajp
          try clear ajq
          try clear ajr
          try clear ajs
          try clear ajt
          try clear aju
          try clear ajv
          try clear ajw
          try clear ajx
          try clear ajy
          try clear ajz
          try clear ajA
          try clear ajB
          try clear ajC
          try clear ajD
          try clear ajE
          try clear ajF
          try clear ajG
          try clear ajH
          try clear ajI
          try clear ajJ
          try clear ajK
          try clear ajL
          try clear ajM
          try clear ajN
          try clear ajO
          try clear ajP
          try clear ajQ
          try clear ajR
          try clear ajS
          try clear ajT
          try clear ajU
          try clear ajV
          try clear ajW
          try clear ajX
          try clear ajY
          try clear ajZ
          try clear aj0
          try clear aj1
          try clear aj2
          try clear aj3
          try clear aj4
          try clear aj5
          try clear aj6
          try clear aj7
          try clear aj8
          try clear aj9
          try clear aj_
          try clear akb
          try clear akc
          try clear akd
          try clear ake
          try clear akf
          try clear akg
          try clear akh
          try clear aki
          try clear akj
          try clear akk
          try clear akl
          try clear akm
          try clear akn
          try clear ako
          try clear akp
          try clear akq
          try clear akr
          try clear aks
          try clear akt
          try clear aku
          try clear akv
          try clear akw
          try clear akx
          try clear aky
          try clear akz
          try clear akA
          try clear akB
          try clear akC
          try clear akD
          try clear akE
          try clear akF
          try clear akG
          try clear akH
          try clear akI
          try clear akJ
          try clear akK
          try clear akL
          try clear akM
          try clear akN
          try clear akO
          try clear akP
          try clear akQ
          try clear akR
          try clear akS
          try clear akT
          try clear akU
          try clear akV
          try clear akW
          try clear akX
          try clear akY
          try clear akZ
          try clear ak0
          try clear ak1
          try clear ak2
          try clear ak3
          try clear ak4
          try clear ak5
          try clear ak6
          try clear ak7
          try clear ak8
          try clear ak9
          try clear ak_
          try clear ala
          try clear alb
          try clear alc
          try clear ald
          try clear ale
          try clear alf
          try clear alg
          try clear alh
          try clear ali
          try clear alj
          try clear alk
          try clear alm
          try clear aln
          try clear alo
          try clear alp
          try clear alq
          try clear alr
          try clear als
          try clear alu
          try clear alv
          try clear alx
          try clear aly
          try clear alz
          try clear alA
          try clear alB
          try clear alC
          try clear alD
          try clear alE
          try clear alF
          try clear alG
          try clear alH
          try clear alI
          try clear alJ
          try clear alK
          try clear GR
          try clear GU
          try clear GV
          try clear GX
          try clear GY
          try clear zn
          try clear zo
          try clear zq
          try clear zu
          try clear zw
          try clear Ca
          try clear Cb
          try clear Cc
          try clear Ce
          try clear Cg
          try clear LA
          try clear LC
          try clear LD
          try clear LG
          try clear LH
          try clear D7
          try clear D8
          try clear D9
          try clear D_
          try clear Ea
          try clear abu
          try clear abv
          try clear abw
          try clear abx
          try clear aby
          try clear abz
          try clear abA
          try clear abB
          try clear abC
          try clear abD
          try clear abE
          try clear abF
          try clear abG
          try clear abH
          try clear abI
          try clear abJ
          try clear abK
          try clear abL
          try clear abM
          try clear abN
          try clear abO
          try clear abP
          try clear abQ
          try clear abR
          try clear abS
          try clear abT
          try clear abU
          try clear abV
          try clear abW
          try clear abX
          try clear abY
          try clear abZ
          try clear ab0
          try clear ab1
          try clear ab2
          try clear ab3
          try clear ab4
          try clear ab5
          try clear ab6
          try clear ab7
          try clear ab8
          try clear ab9
          try clear ab_
          try clear acd
          try clear ace
          try clear acf
          try clear acg
          try clear ach
          try clear aci
          try clear acj
          try clear acn
          try clear aco
          try clear acp
          try clear acr
          try clear acs
          try clear acu
          try clear acv
          try clear acw
          try clear acy
          try clear acz
          try clear acA
          try clear acB
          try clear acC
          try clear acD
          try clear acE
          try clear acF
          try clear acG
          try clear acH
          try clear acI
          try clear acJ
          try clear acK
          try clear acL
          try clear alL
          try clear alM
          try clear alN
          try clear alO
          try clear alP
          try clear alQ
          try clear alR
          try clear alS
          try clear alT
          try clear alU
          try clear alV
          try clear alW
          try clear alX
          try clear alY
          try clear alZ
          try clear al0
          try clear al1
          try clear al2
          try clear al3
          try clear al4
          try clear al5
          try clear al6
          try clear al7
          try clear al8
          try clear al9
          try clear al_
          try clear ama
          try clear amb
          try clear amc
          try clear amd
          try clear ame
          try clear amf
          try clear amg
          try clear amh
          try clear ami
          try clear amj
          try clear amk
          try clear aml
          try clear amm
          try clear amn
          try clear amo
          try clear amq
          try clear amr
          try clear ams
          try clear amt
          try clear amu
          try clear amv
          try clear amw
          try clear amx
          try clear amy
          try clear amz
          try clear amA
          try clear amB
          try clear amC
          try clear amD
          try clear amE
          try clear amF
          try clear amG
          try clear amH
          try clear amI
          try clear amJ
          try clear amK
          try clear amL
          try clear amM
          try clear amN
          try clear amO
          try clear amP
          try clear amQ
          try clear amR
          try clear amS
          try clear amT
          try clear amU
          try clear amV
          try clear amW
          try clear amX
          try clear amY
          try clear amZ
          try clear am0
          try clear am1
          try clear am2
          try clear am3
          try clear am4
          try clear am5
          try clear am6
          try clear am7
          try clear am8
          try clear am9
          try clear am_
          try clear ana
          try clear anb
          try clear ane
          try clear anf
          try clear ang
          try clear anh
          try clear ani
          try clear anj
          try clear ank
          try clear anl
          try clear anm
          try clear ano
          try clear anp
          try clear anq
          try clear anr
          try clear ant
          try clear anu
          try clear anv
          try clear anw
          try clear anx
          try clear anz
          try clear anA
          try clear anB
          try clear anC
          try clear anD
          try clear anE
          try clear anF
          try clear anG
          try clear anH
          try clear anI
          try clear anJ
          try clear anK
          try clear anL
          try clear anM
          try clear anN
          try clear anO
          try clear anP
          try clear anQ
          try clear anR
          try clear anS
          try clear anT
          try clear anU
          try clear anV
          try clear anW
          try clear anX
          try clear anY
          try clear anZ
          try clear an0
          try clear an1
          try clear an2
          try clear an3
          try clear an4
          try clear an5
          try clear an6
          try clear an7
          try clear an8
          try clear an9
          try clear an_
          try clear aoa
          try clear aob
          try clear aoc
          try clear aod
          try clear aoe
          try clear aof
          try clear aog
          try clear aoh
          try clear aoi
          try clear aoj
          try clear aok
          try clear aol
          try clear aom
          try clear aon
          try clear aoo
          try clear aop
          try clear aoq
          try clear aor
          try clear aos
          try clear aot
          try clear aou
          try clear aov
          try clear aow
          try clear aox
          try clear aoy
          try clear aoz
          try clear aoA
          try clear aoB
          try clear aoC
          try clear aoD
          try clear aoE
          try clear aoF
          try clear aoG
          try clear aoH
          try clear aoI
          try clear aoJ
          try clear aoK
          try clear aoL
          try clear aoM
          try clear aoN
          try clear aoO
          try clear aoP
          try clear aoQ
          try clear aoR
          try clear aoS
          try clear aoT
          try clear aoU
          try clear aoV
          try clear aoW
          try clear aoX
          try clear aoY
          try clear aoZ
          try clear ao0
          try clear ao1
          try clear ao2
          try clear ao3
          try clear ao4
          try clear p2
          obtain ⟨kq, G5, rfl, HA, ao5, aM, aj, HB⟩ := hcut
          cases kq with
          | zero => exact absurd HA.out (by simp [dI.j2])
          | succ G6 =>
           have H := HA.out
           clear HA
           simp only [dI.j2] at H
           by_cases G7 : G5 = true
           ·subst G7
            have H1 : (if bg = 0 then (some 0) else (some 6)) = some r := by rw [if_pos rfl] at H; exact H
            clear H
            have H := H1
            clear H1
            by_cases zB : bg = 0
            ·rw [if_pos zB] at H
             have acV : (bg == 0) = true := beq_iff_eq.mpr zB
             have acW : (bg != 0) = false := bne_eq_false_iff_eq.mpr zB
             clear zB
             obtain rfl := Option.some.inj H
             have ao6 := jH.out
             have ao7 := jG.out
             have := cz aj.out 0 rfl
             have := cz aj.out 1 rfl
             have := cz aj.out 2 rfl
             have := cz aj.out 3 rfl
             have := cz aj.out 4 rfl
             have := cz aj.out 5 rfl
             have := cz aj.out 6 rfl
             have := cz aj.out 7 rfl
             have := cz aj.out 8 rfl
             have := cz aj.out 9 rfl
             have := cz aj.out 10 rfl
             have := cz aj.out 11 rfl
             have := cz aj.out 12 rfl
             have := fz aj.out 0
             have := fz aj.out 1
             have := fz aj.out 2
             have := fz aj.out 3
             have := fz aj.out 4
             have := fz aj.out 5
             have := fz aj.out 6
             have := fz aj.out 7
             have := fz aj.out 8
             have := fz aj.out 9
             have := fz aj.out 10
             have := fz aj.out 11
             have := fz aj.out 12
             go_wp2
             go_ret
             exact ⟨by first | rfl | (simp [aQ, aR] <;> rfl) | (simp [*, aQ, aR] <;> rfl), by repeat (first | (with_reducible first | exact HB.out | apply bA | apply pN | apply au | refine bS ?_ fq.out | refine bS ?_ fA.out) | exact HB.out)⟩
            ·rw [if_neg zB] at H
             have acV : (bg == 0) = false := beq_eq_false_iff_ne.mpr zB
             have acW : (bg != 0) = true := bne_iff_ne.mpr zB
             obtain rfl := Option.some.inj H
             have ao8 := jH.out
             have ao9 := jG.out
             have := cz aj.out 0 rfl
             have := cz aj.out 1 rfl
             have := cz aj.out 2 rfl
             have := cz aj.out 3 rfl
             have := cz aj.out 4 rfl
             have := cz aj.out 5 rfl
             have := cz aj.out 6 rfl
             have := cz aj.out 7 rfl
             have := cz aj.out 8 rfl
             have := cz aj.out 9 rfl
             have := cz aj.out 10 rfl
             have := cz aj.out 11 rfl
             have := cz aj.out 12 rfl
             have := fz aj.out 0
             have := fz aj.out 1
             have := fz aj.out 2
             have := fz aj.out 3
             have := fz aj.out 4
             have := fz aj.out 5
             have := fz aj.out 6
             have := fz aj.out 7
             have := fz aj.out 8
             have := fz aj.out 9
             have := fz aj.out 10
             have := fz aj.out 11
             have := fz aj.out 12
             go_wp2
             go_ret
             exact ⟨by first | rfl | (simp [aQ, aR] <;> rfl) | (simp [*, aQ, aR] <;> rfl), by repeat (first | (with_reducible first | exact HB.out | apply bA | apply pN | apply au | refine bS ?_ fq.out | refine bS ?_ fA.out) | exact HB.out)⟩
           ·replace G7 := Bool.eq_false_iff.mpr G7
            subst G7
            have H1 : (if ah = 1 then (if bg = 0 then (some 0) else (if bg = 1 then (some 0) else (some 6))) else ((p9.f ah av aG aJ aI).bind fun DV => ((uo.f G6 DV.1 DV.2 bg).bind fun t255 => (if t255 = true then (some 0) else (some 6))))) = some r := by rw [if_neg (show ¬ (false = true) by decide)] at H; exact H
            clear H
            have H := H1
            clear H1
            by_cases zC : ah = 1
            ·rw [if_pos zC] at H
             have acX : (ah == 1) = true := beq_iff_eq.mpr zC
             have acY : (ah != 1) = false := bne_eq_false_iff_eq.mpr zC
             clear zC
             by_cases zD : bg = 0
             ·rw [if_pos zD] at H
              have acZ : (bg == 0) = true := beq_iff_eq.mpr zD
              have ac0 : (bg != 0) = false := bne_eq_false_iff_eq.mpr zD
              clear zD
              obtain rfl := Option.some.inj H
              have ao_ := jG.out
              have apa := jH.out
              have := cz aM.out 0 rfl
              have := cz aM.out 1 rfl
              have := cz aM.out 2 rfl
              have := cz aM.out 3 rfl
              have := cz aM.out 4 rfl
              have := fz aM.out 0
              have := fz aM.out 1
              have := fz aM.out 2
              have := fz aM.out 3
              have := fz aM.out 4
              have := cz aj.out 0 rfl
              have := cz aj.out 1 rfl
              have := cz aj.out 2 rfl
              have := cz aj.out 3 rfl
              have := cz aj.out 4 rfl
              have := cz aj.out 5 rfl
              have := cz aj.out 6 rfl
              have := cz aj.out 7 rfl
              have := cz aj.out 8 rfl
              have := cz aj.out 9 rfl
              have := cz aj.out 10 rfl
              have := cz aj.out 11 rfl
              have := cz aj.out 12 rfl
              have := fz aj.out 0
              have := fz aj.out 1
              have := fz aj.out 2
              have := fz aj.out 3
              have := fz aj.out 4
              have := fz aj.out 5
              have := fz aj.out 6
              have := fz aj.out 7
              have := fz aj.out 8
              have := fz aj.out 9
              have := fz aj.out 10
              have := fz aj.out 11
              have := fz aj.out 12
              go_wp2
              go_ret
              exact ⟨by first | rfl | (simp [aQ, aR] <;> rfl) | (simp [*, aQ, aR] <;> rfl), by repeat (first | (with_reducible first | exact HB.out | apply bA | apply pN | apply au | refine bS ?_ fq.out | refine bS ?_ fA.out) | exact HB.out)⟩
             ·rw [if_neg zD] at H
              have acZ : (bg == 0) = false := beq_eq_false_iff_ne.mpr zD
              have ac0 : (bg != 0) = true := bne_iff_ne.mpr zD
              by_cases c105 : bg = 1
              ·rw [if_pos c105] at H
               have ac1 : (bg == 1) = true := beq_iff_eq.mpr c105
               have ac2 : (bg != 1) = false := bne_eq_false_iff_eq.mpr c105
               clear c105
               obtain rfl := Option.some.inj H
               have apb := jG.out
               have apc := jH.out
               have := cz aM.out 0 rfl
               have := cz aM.out 1 rfl
               have := cz aM.out 2 rfl
               have := cz aM.out 3 rfl
               have := cz aM.out 4 rfl
               have := fz aM.out 0
               have := fz aM.out 1
               have := fz aM.out 2
               have := fz aM.out 3
               have := fz aM.out 4
               have := cz aj.out 0 rfl
               have := cz aj.out 1 rfl
               have := cz aj.out 2 rfl
               have := cz aj.out 3 rfl
               have := cz aj.out 4 rfl
               have := cz aj.out 5 rfl
               have := cz aj.out 6 rfl
               have := cz aj.out 7 rfl
               have := cz aj.out 8 rfl
               have := cz aj.out 9 rfl
               have := cz aj.out 10 rfl
               have := cz aj.out 11 rfl
               have := cz aj.out 12 rfl
               have := fz aj.out 0
               have := fz aj.out 1
               have := fz aj.out 2
               have := fz aj.out 3
               have := fz aj.out 4
               have := fz aj.out 5
               have := fz aj.out 6
               have := fz aj.out 7
               have := fz aj.out 8
               have := fz aj.out 9
               have := fz aj.out 10
               have := fz aj.out 11
               have := fz aj.out 12
               go_wp2
               go_ret
               exact ⟨by first | rfl | (simp [aQ, aR] <;> rfl) | (simp [*, aQ, aR] <;> rfl), by repeat (first | (with_reducible first | exact HB.out | apply bA | apply pN | apply au | refine bS ?_ fq.out | refine bS ?_ fA.out) | exact HB.out)⟩
              ·rw [if_neg c105] at H
               have ac1 : (bg == 1) = false := beq_eq_false_iff_ne.mpr c105
               have ac2 : (bg != 1) = true := bne_iff_ne.mpr c105
               obtain rfl := Option.some.inj H
               have apd := jG.out
               have ape := jH.out
               have := cz aM.out 0 rfl
               have := cz aM.out 1 rfl
               have := cz aM.out 2 rfl
               have := cz aM.out 3 rfl
               have := cz aM.out 4 rfl
               have := fz aM.out 0
               have := fz aM.out 1
               have := fz aM.out 2
               have := fz aM.out 3
               have := fz aM.out 4
               have := cz aj.out 0 rfl
               have := cz aj.out 1 rfl
               have := cz aj.out 2 rfl
               have := cz aj.out 3 rfl
               have := cz aj.out 4 rfl
               have := cz aj.out 5 rfl
               have := cz aj.out 6 rfl
               have := cz aj.out 7 rfl
               have := cz aj.out 8 rfl
               have := cz aj.out 9 rfl
               have := cz aj.out 10 rfl
               have := cz aj.out 11 rfl
               have := cz aj.out 12 rfl
               have := fz aj.out 0
               have := fz aj.out 1
               have := fz aj.out 2
               have := fz aj.out 3
               have := fz aj.out 4
               have := fz aj.out 5
               have := fz aj.out 6
               have := fz aj.out 7
               have := fz aj.out 8
               have := fz aj.out 9
               have := fz aj.out 10
               have := fz aj.out 11
               have := fz aj.out 12
               go_wp2
               go_ret
               exact ⟨by first | rfl | (simp [aQ, aR] <;> rfl) | (simp [*, aQ, aR] <;> rfl), by repeat (first | (with_reducible first | exact HB.out | apply bA | apply pN | apply au | refine bS ?_ fq.out | refine bS ?_ fA.out) | exact HB.out)⟩
            ·rw [if_neg zC] at H
             have acX : (ah == 1) = false := beq_eq_false_iff_ne.mpr zC
             have acY : (ah != 1) = true := bne_iff_ne.mpr zC
             replace H := Option.bind_eq_some_iff.mp H
             obtain ⟨⟨t253, t254⟩, R6, H⟩ := H
             replace H : ((uo.f G6 t253 t254 bg).bind fun t255 => (if t255 = true then (some 0) else (some 6))) = some r := H
             have R7 := am R6
             clear R6
             replace H := Option.bind_eq_some_iff.mp H
             obtain ⟨t255, R8, H⟩ := H
             replace H : (if t255 = true then (some 0) else (some 6)) = some r := H
             have R9 := am R8
             clear R8
             by_cases G8 : t255 = true
             ·subst G8
              have H1 : (some 0) = some r := by rw [if_pos rfl] at H; exact H
              clear H
              have H := H1
              clear H1
              obtain rfl := Option.some.inj H
              have apf := jG.out
              have apg := jH.out
              have := cz aM.out 0 rfl
              have := cz aM.out 1 rfl
              have := cz aM.out 2 rfl
              have := cz aM.out 3 rfl
              have := cz aM.out 4 rfl
              have := fz aM.out 0
              have := fz aM.out 1
              have := fz aM.out 2
              have := fz aM.out 3
              have := fz aM.out 4
              try go_wp2
              have ay := am (kD aM.out)
              have aA := am (kD aj.out)
              have aK := am (au HB.out)
              clear aM
              clear aj
              clear HB
              have aM := ay
              have aj := aA
              have HB := aK
              clear ay aA aK
              refine G9 (n := 6) (S := fun w' => w'.cell? ⟨eT, 0, none⟩ = some (.int .i64 ah) ∧ w'.cell? ⟨eT, 1, none⟩ = some (.int .i64 av) ∧ w'.cell? ⟨eT, 2, none⟩ = some (.string aG) ∧ w'.cell? ⟨eT, 3, none⟩ = some (.bool aJ) ∧ w'.cell? ⟨eT, 4, none⟩ = some (.bool aI) ∧ w'.cell? ⟨dL, 0, none⟩ = some (.int .i64 bJ) ∧ w'.cell? ⟨dL, 1, none⟩ = some (.int .i64 bK) ∧ w'.cell? ⟨dL, 2, none⟩ = some (.string bL) ∧ w'.cell? ⟨dL, 3, none⟩ = some (.bool bM) ∧ w'.cell? ⟨dL, 4, none⟩ = some (.bool bN) ∧ w'.cell? ⟨dL, 5, none⟩ = some (.int .i64 bg) ∧ w'.cell? ⟨dL, 6, none⟩ = some (.bool bU) ∧ w'.cell? ⟨dL, 7, none⟩ = some (.string bH) ∧ w'.cell? ⟨dL, 8, none⟩ = some (.int .i64 bq) ∧ w'.cell? ⟨dL, 9, none⟩ = some (.int .i64 bC) ∧ w'.cell? ⟨dL, 10, none⟩ = some (.string bE) ∧ w'.cell? ⟨dL, 11, none⟩ = some (.bool bF) ∧ w'.cell? ⟨dL, 12, none⟩ = some (.bool bG)) (ds := []) #[false, false, false, false, false, false] (by kernel_rfl) rfl rfl ⟨(bQ aM.out 0).trans rfl, (bQ aM.out 1).trans rfl, (bQ aM.out 2).trans rfl, (bQ aM.out 3).trans rfl, (bQ aM.out 4).trans rfl, (bQ aj.out 0).trans rfl, (bQ aj.out 1).trans rfl, (bQ aj.out 2).trans rfl, (bQ aj.out 3).trans rfl, (bQ aj.out 4).trans rfl, (bQ aj.out 5).trans rfl, (bQ aj.out 6).trans rfl, (bQ aj.out 7).trans rfl, (bQ aj.out 8).trans rfl, (bQ aj.out 9).trans rfl, (bQ aj.out 10).trans rfl, (bQ aj.out 11).trans rfl, (bQ aj.out 12).trans rfl⟩ (fun hHeld => ?_)
              generalize wc.drew = aph at aM aj HB hHeld ⊢
              refine kr (i := 2) (N := some 61) (v := ?_) (a' := ?_) #[false, false, true, false, false, false] rfl rfl (by kernel_rfl) (fun _ _ _ h => h) (Or.inl ⟨by rfl, ?_⟩) ?_ ?_
              rotate_left
              ·intro w'
               go_simp
               with_reducible rfl
              rotate_left
              ·simp only [Act.put, List.setIfInBounds_toArray, List.set_cons_zero, List.set_cons_succ, dS, eZ]
               rfl
              refine w_ (i := 0) (N := some 59) (v := ?_) (a' := ?_) #[true, false, true, false, false, false] rfl rfl (by kernel_rfl) (fun _ _ _ h => h) (Or.inl ⟨by rfl, ?_⟩) hHeld ?_ ?_
              rotate_left
              ·rintro w' ⟨s0, s1, s2, s3, s4, s5, s6, s7, s8, s9, s10, s11, s12, s13, zF, s15, s16, zG⟩
               go_simp
               with_reducible rfl
              rotate_left
              ·simp only [Act.put, List.setIfInBounds_toArray, List.set_cons_zero, List.set_cons_succ, dS, eZ]
               rfl
              refine w_ (i := 3) (N := some 62) (v := ?_) (a' := ?_) #[true, false, true, true, false, false] rfl rfl (by kernel_rfl) (fun _ _ _ h => h) (Or.inl ⟨by rfl, ?_⟩) hHeld ?_ ?_
              rotate_left
              ·rintro w' ⟨s0, s1, s2, s3, s4, s5, s6, s7, s8, s9, s10, s11, s12, s13, zF, s15, s16, zG⟩
               go_simp
               with_reducible rfl
              rotate_left
              ·simp only [Act.put, List.setIfInBounds_toArray, List.set_cons_zero, List.set_cons_succ, dS, eZ]
               rfl
              refine Ch (i := 1) (N := some 60) #[true, true, true, true, false, false] rfl rfl (by kernel_rfl) (by decide) (fun K hK => ?_)
              refine Ci Tryz.func21 (by kernel_rfl) rfl #[.agg #[.int .i64 ah, .int .i64 av, .string aG, .bool aJ, .bool aI]] (by rfl) rfl rfl (by (try simp only [List.map_toArray, List.map_cons, List.map_nil]); first | done | rfl | (simp only [List.length_drop, List.length_take]; rfl)) ?_
              with_reducible refine (p9.calls ah av aG aJ aI t253 t254 _ R7.out).mono ?_
              rintro e apj ⟨rfl, hb⟩
              refine ⟨_, rfl, ?_⟩
              have ay := am (kB (g := eT) (o := .cells #[.int .i64 ah, .int .i64 av, .string aG, .bool aJ, .bool aI] 29 (0, 0)) (by (with_reducible repeat (first | apply kN | apply kD | apply kA)); exact aM.out) hb)
              have aA := am (kB (g := dL) (o := .cells #[.int .i64 bJ, .int .i64 bK, .string bL, .bool bM, .bool bN, .int .i64 bg, .bool bU, .string bH, .int .i64 bq, .int .i64 bC, .string bE, .bool bF, .bool bG] 31 (0, 0)) (by (with_reducible repeat (first | apply kN | apply kD | apply kA)); exact aj.out) hb)
              have aK := am (bP (by repeat (first | (with_reducible first | exact HB.out | apply bA | apply pN | apply au | refine bS ?_ fq.out | refine bS ?_ fA.out) | exact HB.out)) hb)
              clear aM
              clear aj
              clear HB
              have aM := ay
              have aj := aA
              have HB := aK
              clear ay aA aK
              (try clear hb)
              (try clear hb2)
              (try clear hk)
              (try clear hi)
              refine hK.out _ _ ⟨(bQ aM.out 0).trans rfl, (bQ aM.out 1).trans rfl, (bQ aM.out 2).trans rfl, (bQ aM.out 3).trans rfl, (bQ aM.out 4).trans rfl, (bQ aj.out 0).trans rfl, (bQ aj.out 1).trans rfl, (bQ aj.out 2).trans rfl, (bQ aj.out 3).trans rfl, (bQ aj.out 4).trans rfl, (bQ aj.out 5).trans rfl, (bQ aj.out 6).trans rfl, (bQ aj.out 7).trans rfl, (bQ aj.out 8).trans rfl, (bQ aj.out 9).trans rfl, (bQ aj.out 10).trans rfl, (bQ aj.out 11).trans rfl, (bQ aj.out 12).trans rfl⟩ (fun hHeld => ?_)
              clear hK K
              refine Cj (a' := ?_) ?_ ?_
              rotate_left
              ·show Act.put _ (some 60) _ = _
               simp only [Act.put, List.setIfInBounds_toArray, List.set_cons_zero, List.set_cons_succ, dS, eZ]
               rfl
              refine Ch (i := 4) (N := some 63) #[true, true, true, true, true, false] rfl rfl (by kernel_rfl) (by decide) (fun K hK => ?_)
              refine Ci Tryz.func20 (by kernel_rfl) rfl #[.agg #[.bool t253, .int .i64 t254], .int .i64 bg] (by rfl) rfl rfl (by (try simp only [List.map_toArray, List.map_cons, List.map_nil]); first | done | rfl | (simp only [List.length_drop, List.length_take]; rfl)) ?_
              with_reducible refine (uo.calls G6 t253 t254 bg true _ R9.out).mono ?_
              rintro e apk ⟨rfl, hb⟩
              refine ⟨_, rfl, ?_⟩
              have ay := am (kB (g := eT) (o := .cells #[.int .i64 ah, .int .i64 av, .string aG, .bool aJ, .bool aI] 29 (0, 0)) (by (with_reducible repeat (first | apply kN | apply kD | apply kA)); exact aM.out) hb)
              have aA := am (kB (g := dL) (o := .cells #[.int .i64 bJ, .int .i64 bK, .string bL, .bool bM, .bool bN, .int .i64 bg, .bool bU, .string bH, .int .i64 bq, .int .i64 bC, .string bE, .bool bF, .bool bG] 31 (0, 0)) (by (with_reducible repeat (first | apply kN | apply kD | apply kA)); exact aj.out) hb)
              have aK := am (bP (by repeat (first | (with_reducible first | exact HB.out | apply bA | apply pN | apply au | refine bS ?_ fq.out | refine bS ?_ fA.out) | exact HB.out)) hb)
              clear aM
              clear aj
              clear HB
              have aM := ay
              have aj := aA
              have HB := aK
              clear ay aA aK
              (try clear hb)
              (try clear hb2)
              (try clear hk)
              (try clear hi)
              refine hK.out _ _ ⟨(bQ aM.out 0).trans rfl, (bQ aM.out 1).trans rfl, (bQ aM.out 2).trans rfl, (bQ aM.out 3).trans rfl, (bQ aM.out 4).trans rfl, (bQ aj.out 0).trans rfl, (bQ aj.out 1).trans rfl, (bQ aj.out 2).trans rfl, (bQ aj.out 3).trans rfl, (bQ aj.out 4).trans rfl, (bQ aj.out 5).trans rfl, (bQ aj.out 6).trans rfl, (bQ aj.out 7).trans rfl, (bQ aj.out 8).trans rfl, (bQ aj.out 9).trans rfl, (bQ aj.out 10).trans rfl, (bQ aj.out 11).trans rfl, (bQ aj.out 12).trans rfl⟩ (fun hHeld => ?_)
              clear hK K
              refine Cj (a' := ?_) ?_ ?_
              rotate_left
              ·show Act.put _ (some 63) _ = _
               simp only [Act.put, List.setIfInBounds_toArray, List.set_cons_zero, List.set_cons_succ, dS, eZ]
               rfl
              refine kr (i := 5) (N := some 6) (v := ?_) (a' := ?_) #[true, true, true, true, true, true] rfl rfl (by kernel_rfl) (fun _ _ _ h => h) (Or.inl ⟨by rfl, ?_⟩) ?_ ?_
              rotate_left
              ·intro w'
               go_simp
               with_reducible rfl
              rotate_left
              ·simp only [Act.put, List.setIfInBounds_toArray, List.set_cons_zero, List.set_cons_succ, dS, eZ]
               rfl
              refine G_ (by kernel_rfl) ?_
              try go_wp2
              go_ret
              exact ⟨by first | rfl | (simp [aQ, aR] <;> rfl) | (simp [*, aQ, aR] <;> rfl), by repeat (first | (with_reducible first | exact HB.out | apply bA | apply pN | apply au | refine bS ?_ fq.out | refine bS ?_ fA.out) | exact HB.out)⟩
             ·replace G8 := Bool.eq_false_iff.mpr G8
              subst G8
              have H1 : (some 6) = some r := by rw [if_neg (show ¬ (false = true) by decide)] at H; exact H
              clear H
              have H := H1
              clear H1
              obtain rfl := Option.some.inj H
              have apl := jG.out
              have apm := jH.out
              have := cz aM.out 0 rfl
              have := cz aM.out 1 rfl
              have := cz aM.out 2 rfl
              have := cz aM.out 3 rfl
              have := cz aM.out 4 rfl
              have := fz aM.out 0
              have := fz aM.out 1
              have := fz aM.out 2
              have := fz aM.out 3
              have := fz aM.out 4
              try go_wp2
              have ay := am (kD aM.out)
              have aA := am (kD aj.out)
              have aK := am (au HB.out)
              clear aM
              clear aj
              clear HB
              have aM := ay
              have aj := aA
              have HB := aK
              clear ay aA aK
              refine G9 (n := 6) (S := fun w' => w'.cell? ⟨eT, 0, none⟩ = some (.int .i64 ah) ∧ w'.cell? ⟨eT, 1, none⟩ = some (.int .i64 av) ∧ w'.cell? ⟨eT, 2, none⟩ = some (.string aG) ∧ w'.cell? ⟨eT, 3, none⟩ = some (.bool aJ) ∧ w'.cell? ⟨eT, 4, none⟩ = some (.bool aI) ∧ w'.cell? ⟨dL, 0, none⟩ = some (.int .i64 bJ) ∧ w'.cell? ⟨dL, 1, none⟩ = some (.int .i64 bK) ∧ w'.cell? ⟨dL, 2, none⟩ = some (.string bL) ∧ w'.cell? ⟨dL, 3, none⟩ = some (.bool bM) ∧ w'.cell? ⟨dL, 4, none⟩ = some (.bool bN) ∧ w'.cell? ⟨dL, 5, none⟩ = some (.int .i64 bg) ∧ w'.cell? ⟨dL, 6, none⟩ = some (.bool bU) ∧ w'.cell? ⟨dL, 7, none⟩ = some (.string bH) ∧ w'.cell? ⟨dL, 8, none⟩ = some (.int .i64 bq) ∧ w'.cell? ⟨dL, 9, none⟩ = some (.int .i64 bC) ∧ w'.cell? ⟨dL, 10, none⟩ = some (.string bE) ∧ w'.cell? ⟨dL, 11, none⟩ = some (.bool bF) ∧ w'.cell? ⟨dL, 12, none⟩ = some (.bool bG)) (ds := []) #[false, false, false, false, false, false] (by kernel_rfl) rfl rfl ⟨(bQ aM.out 0).trans rfl, (bQ aM.out 1).trans rfl, (bQ aM.out 2).trans rfl, (bQ aM.out 3).trans rfl, (bQ aM.out 4).trans rfl, (bQ aj.out 0).trans rfl, (bQ aj.out 1).trans rfl, (bQ aj.out 2).trans rfl, (bQ aj.out 3).trans rfl, (bQ aj.out 4).trans rfl, (bQ aj.out 5).trans rfl, (bQ aj.out 6).trans rfl, (bQ aj.out 7).trans rfl, (bQ aj.out 8).trans rfl, (bQ aj.out 9).trans rfl, (bQ aj.out 10).trans rfl, (bQ aj.out 11).trans rfl, (bQ aj.out 12).trans rfl⟩ (fun hHeld => ?_)
              generalize wc.drew = apn at aM aj HB hHeld ⊢
              refine kr (i := 2) (N := some 61) (v := ?_) (a' := ?_) #[false, false, true, false, false, false] rfl rfl (by kernel_rfl) (fun _ _ _ h => h) (Or.inl ⟨by rfl, ?_⟩) ?_ ?_
              rotate_left
              ·intro w'
               go_simp
               with_reducible rfl
              rotate_left
              ·simp only [Act.put, List.setIfInBounds_toArray, List.set_cons_zero, List.set_cons_succ, dS, eZ]
               rfl
              refine w_ (i := 0) (N := some 59) (v := ?_) (a' := ?_) #[true, false, true, false, false, false] rfl rfl (by kernel_rfl) (fun _ _ _ h => h) (Or.inl ⟨by rfl, ?_⟩) hHeld ?_ ?_
              rotate_left
              ·rintro w' ⟨s0, s1, s2, s3, s4, s5, s6, s7, s8, s9, s10, s11, s12, s13, zF, s15, s16, zG⟩
               go_simp
               with_reducible rfl
              rotate_left
              ·simp only [Act.put, List.setIfInBounds_toArray, List.set_cons_zero, List.set_cons_succ, dS, eZ]
               rfl
              refine w_ (i := 3) (N := some 62) (v := ?_) (a' := ?_) #[true, false, true, true, false, false] rfl rfl (by kernel_rfl) (fun _ _ _ h => h) (Or.inl ⟨by rfl, ?_⟩) hHeld ?_ ?_
              rotate_left
              ·rintro w' ⟨s0, s1, s2, s3, s4, s5, s6, s7, s8, s9, s10, s11, s12, s13, zF, s15, s16, zG⟩
               go_simp
               with_reducible rfl
              rotate_left
              ·simp only [Act.put, List.setIfInBounds_toArray, List.set_cons_zero, List.set_cons_succ, dS, eZ]
               rfl
              refine Ch (i := 1) (N := some 60) #[true, true, true, true, false, false] rfl rfl (by kernel_rfl) (by decide) (fun K hK => ?_)
              refine Ci Tryz.func21 (by kernel_rfl) rfl #[.agg #[.int .i64 ah, .int .i64 av, .string aG, .bool aJ, .bool aI]] (by rfl) rfl rfl (by (try simp only [List.map_toArray, List.map_cons, List.map_nil]); first | done | rfl | (simp only [List.length_drop, List.length_take]; rfl)) ?_
              with_reducible refine (p9.calls ah av aG aJ aI t253 t254 _ R7.out).mono ?_
              rintro e apo ⟨rfl, hb⟩
              refine ⟨_, rfl, ?_⟩
              have ay := am (kB (g := eT) (o := .cells #[.int .i64 ah, .int .i64 av, .string aG, .bool aJ, .bool aI] 29 (0, 0)) (by (with_reducible repeat (first | apply kN | apply kD | apply kA)); exact aM.out) hb)
              have aA := am (kB (g := dL) (o := .cells #[.int .i64 bJ, .int .i64 bK, .string bL, .bool bM, .bool bN, .int .i64 bg, .bool bU, .string bH, .int .i64 bq, .int .i64 bC, .string bE, .bool bF, .bool bG] 31 (0, 0)) (by (with_reducible repeat (first | apply kN | apply kD | apply kA)); exact aj.out) hb)
              have aK := am (bP (by repeat (first | (with_reducible first | exact HB.out | apply bA | apply pN | apply au | refine bS ?_ fq.out | refine bS ?_ fA.out) | exact HB.out)) hb)
              clear aM
              clear aj
              clear HB
              have aM := ay
              have aj := aA
              have HB := aK
              clear ay aA aK
              (try clear hb)
              (try clear hb2)
              (try clear hk)
              (try clear hi)
              refine hK.out _ _ ⟨(bQ aM.out 0).trans rfl, (bQ aM.out 1).trans rfl, (bQ aM.out 2).trans rfl, (bQ aM.out 3).trans rfl, (bQ aM.out 4).trans rfl, (bQ aj.out 0).trans rfl, (bQ aj.out 1).trans rfl, (bQ aj.out 2).trans rfl, (bQ aj.out 3).trans rfl, (bQ aj.out 4).trans rfl, (bQ aj.out 5).trans rfl, (bQ aj.out 6).trans rfl, (bQ aj.out 7).trans rfl, (bQ aj.out 8).trans rfl, (bQ aj.out 9).trans rfl, (bQ aj.out 10).trans rfl, (bQ aj.out 11).trans rfl, (bQ aj.out 12).trans rfl⟩ (fun hHeld => ?_)
              clear hK K
              refine Cj (a' := ?_) ?_ ?_
              rotate_left
              ·show Act.put _ (some 60) _ = _
               simp only [Act.put, List.setIfInBounds_toArray, List.set_cons_zero, List.set_cons_succ, dS, eZ]
               rfl
              refine Ch (i := 4) (N := some 63) #[true, true, true, true, true, false] rfl rfl (by kernel_rfl) (by decide) (fun K hK => ?_)
              refine Ci Tryz.func20 (by kernel_rfl) rfl #[.agg #[.bool t253, .int .i64 t254], .int .i64 bg] (by rfl) rfl rfl (by (try simp only [List.map_toArray, List.map_cons, List.map_nil]); first | done | rfl | (simp only [List.length_drop, List.length_take]; rfl)) ?_
              with_reducible refine (uo.calls G6 t253 t254 bg false _ R9.out).mono ?_
              rintro e apq ⟨rfl, hb⟩
              refine ⟨_, rfl, ?_⟩
              have ay := am (kB (g := eT) (o := .cells #[.int .i64 ah, .int .i64 av, .string aG, .bool aJ, .bool aI] 29 (0, 0)) (by (with_reducible repeat (first | apply kN | apply kD | apply kA)); exact aM.out) hb)
              have aA := am (kB (g := dL) (o := .cells #[.int .i64 bJ, .int .i64 bK, .string bL, .bool bM, .bool bN, .int .i64 bg, .bool bU, .string bH, .int .i64 bq, .int .i64 bC, .string bE, .bool bF, .bool bG] 31 (0, 0)) (by (with_reducible repeat (first | apply kN | apply kD | apply kA)); exact aj.out) hb)
              have aK := am (bP (by repeat (first | (with_reducible first | exact HB.out | apply bA | apply pN | apply au | refine bS ?_ fq.out | refine bS ?_ fA.out) | exact HB.out)) hb)
              clear aM
              clear aj
              clear HB
              have aM := ay
              have aj := aA
              have HB := aK
              clear ay aA aK
              (try clear hb)
              (try clear hb2)
              (try clear hk)
              (try clear hi)
              refine hK.out _ _ ⟨(bQ aM.out 0).trans rfl, (bQ aM.out 1).trans rfl, (bQ aM.out 2).trans rfl, (bQ aM.out 3).trans rfl, (bQ aM.out 4).trans rfl, (bQ aj.out 0).trans rfl, (bQ aj.out 1).trans rfl, (bQ aj.out 2).trans rfl, (bQ aj.out 3).trans rfl, (bQ aj.out 4).trans rfl, (bQ aj.out 5).trans rfl, (bQ aj.out 6).trans rfl, (bQ aj.out 7).trans rfl, (bQ aj.out 8).trans rfl, (bQ aj.out 9).trans rfl, (bQ aj.out 10).trans rfl, (bQ aj.out 11).trans rfl, (bQ aj.out 12).trans rfl⟩ (fun hHeld => ?_)
              clear hK K
              refine Cj (a' := ?_) ?_ ?_
              rotate_left
              ·show Act.put _ (some 63) _ = _
               simp only [Act.put, List.setIfInBounds_toArray, List.set_cons_zero, List.set_cons_succ, dS, eZ]
               rfl
              refine kr (i := 5) (N := some 6) (v := ?_) (a' := ?_) #[true, true, true, true, true, true] rfl rfl (by kernel_rfl) (fun _ _ _ h => h) (Or.inl ⟨by rfl, ?_⟩) ?_ ?_
              rotate_left
              ·intro w'
               go_simp
               with_reducible rfl
              rotate_left
              ·simp only [Act.put, List.setIfInBounds_toArray, List.set_cons_zero, List.set_cons_succ, dS, eZ]
               rfl
              refine G_ (by kernel_rfl) ?_
              try go_wp2
              go_ret
              exact ⟨by first | rfl | (simp [aQ, aR] <;> rfl) | (simp [*, aQ, aR] <;> rfl), by repeat (first | (with_reducible first | exact HB.out | apply bA | apply pN | apply au | refine bS ?_ fq.out | refine bS ?_ fA.out) | exact HB.out)⟩
        ·rw [if_neg zA] at H
         have R5 : (gu bq 0 bC 0 bE (⟨#[]⟩ : ByteArray) bF false bG false) = false := by simpa using zA
         clear zA
         obtain rfl := Option.some.inj H
         have apr := jG.out
         have aps := jH.out
         have := cz aM.out 0 rfl
         have := cz aM.out 1 rfl
         have := cz aM.out 2 rfl
         have := cz aM.out 3 rfl
         have := cz aM.out 4 rfl
         have := fz aM.out 0
         have := fz aM.out 1
         have := fz aM.out 2
         have := fz aM.out 3
         have := fz aM.out 4
         have := cz aj.out 0 rfl
         have := cz aj.out 1 rfl
         have := cz aj.out 2 rfl
         have := cz aj.out 3 rfl
         have := cz aj.out 4 rfl
         have := cz aj.out 5 rfl
         have := cz aj.out 6 rfl
         have := cz aj.out 7 rfl
         have := cz aj.out 8 rfl
         have := cz aj.out 9 rfl
         have := cz aj.out 10 rfl
         have := cz aj.out 11 rfl
         have := cz aj.out 12 rfl
         have := fz aj.out 0
         have := fz aj.out 1
         have := fz aj.out 2
         have := fz aj.out 3
         have := fz aj.out 4
         have := fz aj.out 5
         have := fz aj.out 6
         have := fz aj.out 7
         have := fz aj.out 8
         have := fz aj.out 9
         have := fz aj.out 10
         have := fz aj.out 11
         have := fz aj.out 12
         go_wp2
         go_ret
         exact ⟨by first | rfl | (simp [aQ, aR] <;> rfl) | (simp [*, aQ, aR] <;> rfl), by repeat (first | (with_reducible first | exact HB.out | apply bA | apply pN | apply au | refine bS ?_ fq.out | refine bS ?_ fA.out) | exact HB.out)⟩
end Go.Proofs.YtgliaoanlhbepaaGreatDoor.Q
