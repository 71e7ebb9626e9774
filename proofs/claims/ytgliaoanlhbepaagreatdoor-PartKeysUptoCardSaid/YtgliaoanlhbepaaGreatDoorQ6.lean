/- Walks, printed by a program of this session: what each function of the law computes. -/
import Derived.Test.YtgliaoanlhbepaaGreatDoorQ0
import Derived.Test.YtgliaoanlhbepaaGreatDoorQ2
import Derived.Test.YtgliaoanlhbepaaGreatDoorQ3
import Derived.Test.YtgliaoanlhbepaaGreatDoorQ5
namespace Go.Proofs.YtgliaoanlhbepaaGreatDoor.Q
open Go.RowKit Go.Proofs.bT.eG Go.Proofs.bT.iM Go.Proofs.bT.jd
open Go.Proofs.bT.eG renaming lF → pN, lZ → au, l6 → bA, mZ → bS, m_ → bZ, ng → bP, ni → kN, nk → kD, nu → kA, ny → fz, nA → kB, lH → kL
attribute [local go_sem] nC nD nE nG nH nI nJ nK
set_option maxHeartbeats 8000000
set_option maxRecDepth 100000
set_option linter.unusedVariables false
set_option linter.unusedSimpArgs false
noncomputable def iY.j0 : Nat → Bool → Int → Int → ByteArray → Bool → Bool → Int → Int → ByteArray → Bool → Bool → Int → Bool → ByteArray → Int → Int → ByteArray → Bool → Bool → Option (Int)
 | 0, _, _, _, _, _, _, _, _, _, _, _, _, _, _, _, _, _, _, _ => none
 | k + 1, Hr, aes, aeu, aev, aew, aex, aey, aez, aeA, aeB, aeC, aeD, aeE, aeF, aeG, aeH, aeI, aeJ, aeK => if Hr = true then (some 1) else ((fP.f k aes aeu aev aew aex aey aez aeA aeB aeC aeD aeE aeF aeG aeH aeI aeJ aeK).bind fun t151 => (if t151 = true then (some 0) else (some 6)))
noncomputable def iY.f (k : Nat) (ah : Int) (av : Int) (aG : ByteArray) (aJ : Bool) (aI : Bool) (bJ : Int) (bK : Int) (bL : ByteArray) (bM : Bool) (bN : Bool) (bg : Int) (bU : Bool) (bH : ByteArray) (bq : Int) (bC : Int) (bE : ByteArray) (bF : Bool) (bG : Bool) : Option (Int) := (jE.f k ah av aG aJ aI).bind fun t150 => (if t150 = 0 then (if ah = 5 then (iY.j0 k true ah av aG aJ aI bJ bK bL bM bN bg bU bH bq bC bE bF bG) else (iY.j0 k aI ah av aG aJ aI bJ bK bL bM bN bg bU bH bq bC bE bF bG)) else (iY.j0 k true ah av aG aJ aI bJ bK bL bM bN bg bU bH bq bC bE bF bG))
theorem iY.calls (k : Nat) (ah : Int) (av : Int) (aG : ByteArray) (aJ : Bool) (aI : Bool) (bJ : Int) (bK : Int) (bL : ByteArray) (bM : Bool) (bN : Bool) (bg : Int) (bU : Bool) (bH : ByteArray) (bq : Int) (bC : Int) (bE : ByteArray) (bF : Bool) (bG : Bool) (r : Int) (w : World) (HT0 : Go.Proofs.fM.jv w) (h : iY.f k ah av aG aJ aI bJ bK bL bM bN bg bU bH bq bC bE bF bG = some r) :
 Calls Tryz.prog 7 #[.agg #[.int .i64 ah, .int .i64 av, .string aG, .bool aJ, .bool aI], .agg #[.int .i64 bJ, .int .i64 bK, .string bL, .bool bM, .bool bN, .int .i64 bg, .bool bU, .string bH, .int .i64 bq, .int .i64 bC, .string bE, .bool bF, .bool bG]] w fun e w' => e = .returned (.int .i64 r) ∧ Below w.heap.size w w' := by
 have lI := Tryz.underlying29
 have wW := Tryz.underlying31
 have HB := am (Below.refl w.heap.size w)
 have HT := am HT0
 clear HT0
 have H : ((jE.f k ah av aG aJ aI).bind fun t150 => (if t150 = 0 then (if ah = 5 then (iY.j0 k true ah av aG aJ aI bJ bK bL bM bN bg bU bH bq bC bE bF bG) else (iY.j0 k aI ah av aG aJ aI bJ bK bL bM bN bg bU bH bq bC bE bF bG)) else (iY.j0 k true ah av aG aJ aI bJ bK bL bM bN bg bU bH bq bC bE bF bG))) = some r := h
 clear h
 have mO := am H
 clear H
 go_enter Tryz.func7, Tryz.ntmps7
 go_upto_region 1 with (first | ((with_reducible refine cK (N := 2) rfl ?_); refine cO ?hg (N := 2) ?hd (cs := #[.int .i64 ah, .int .i64 av, .string aG, .bool aJ, .bool aI]) (t := 29) ?hr ?_; (case hd => rfl); (case hg => rfl); (case hr => first | (go_simp; done) | (go_simp; rfl)); intro oz hg w4 aV hb; have ay := am (bP (by repeat (first | (with_reducible first | exact HB.out | apply bA | apply pN | apply au) | exact HB.out)) hb); have aA := am (aV); have aK := am ((by rw [hg]; exact (bZ (by repeat (first | (with_reducible first | exact HB.out | apply bA | apply pN | apply au) | exact HB.out))) : w.heap.size ≤ oz)); have aU := am ((by rw [hg]; exact (bZ (by repeat (first | (with_reducible first | exact HB.out | apply bA | apply pN | apply au) | exact HB.out))) : w.heap.size ≤ oz)); clear HB; have HB := ay; have cu := aA; have atY := aK; have kJ := aU; clear ay aA aK aU; clear hb aV hg) | ((with_reducible refine cK (N := 3) rfl ?_); refine cO ?hg (N := 3) ?hd (cs := #[.int .i64 bJ, .int .i64 bK, .string bL, .bool bM, .bool bN, .int .i64 bg, .bool bU, .string bH, .int .i64 bq, .int .i64 bC, .string bE, .bool bF, .bool bG]) (t := 31) ?hr ?_; (case hd => rfl); (case hg => rfl); (case hr => first | (go_simp; done) | (go_simp; rfl)); intro sW hg w5 aV hb; have ay := am (kB (g := oz) (o := .cells #[.int .i64 ah, .int .i64 av, .string aG, .bool aJ, .bool aI] 29 (0, 0)) (by (with_reducible repeat (first | apply kN | apply kD | apply kA)); exact cu.out) hb); have aA := am (bP (by repeat (first | (with_reducible first | exact HB.out | apply bA | apply pN | apply au | refine bS ?_ kJ.out) | exact HB.out)) hb); have aK := am (aV); have aU := am ((by rw [hg]; exact (bZ (by repeat (first | (with_reducible first | exact HB.out | apply bA | apply pN | apply au | refine bS ?_ kJ.out) | exact HB.out))) : w.heap.size ≤ sW)); have dZ := am ((by rw [hg]; exact (bZ (by repeat (first | (with_reducible first | exact HB.out | apply bA | apply pN | apply au | refine bS ?_ kJ.out) | exact HB.out))) : w.heap.size ≤ sW)); have eH := am ((by rw [hg]; exact Nat.ne_of_lt (kL (g := oz) (o := .cells #[.int .i64 ah, .int .i64 av, .string aG, .bool aJ, .bool aI] 29 (0, 0)) (by (with_reducible repeat (first | apply kN | apply kD | apply kA)); exact cu.out)) : oz ≠ sW)); have eO := am ((by rw [hg]; exact Nat.ne_of_gt (kL (g := oz) (o := .cells #[.int .i64 ah, .int .i64 av, .string aG, .bool aJ, .bool aI] 29 (0, 0)) (by (with_reducible repeat (first | apply kN | apply kD | apply kA)); exact cu.out)) : sW ≠ oz)); clear cu; clear HB; have cu := ay; have HB := aA; have dG := aK; have atZ := aU; have mD := dZ; have EG := eH; have EH := eO; clear ay aA aK aU dZ eH eO; clear hb aV hg))
 (try simp only [Act.put, List.setIfInBounds_toArray, List.set_cons_zero, List.set_cons_succ])
 go_cut [16] (fun v16 wc => ∃ (kq : Nat) (H9 : Bool), v16 = .bool H9 ∧ bI (iY.j0 kq H9 ah av aG aJ aI bJ bK bL bM bN bg bU bH bq bC bE bF bG = some r) ∧ bI (kq ≤ k) ∧ bI (wc.heap[oz]? = some (.cells #[.int .i64 ah, .int .i64 av, .string aG, .bool aJ, .bool aI] 29 (0, 0))) ∧ bI (wc.heap[sW]? = some (.cells #[.int .i64 bJ, .int .i64 bK, .string bL, .bool bM, .bool bN, .int .i64 bg, .bool bU, .string bH, .int .i64 bq, .int .i64 bC, .string bE, .bool bF, .bool bG] 31 (0, 0))) ∧ bI (Below w.heap.size w wc))
 case first =>
  have H := mO.out
  clear mO
  replace H := Option.bind_eq_some_iff.mp H
  obtain ⟨t150, lM, H⟩ := H
  replace H : (if t150 = 0 then (if ah = 5 then (iY.j0 k true ah av aG aJ aI bJ bK bL bM bN bg bU bH bq bC bE bF bG) else (iY.j0 k aI ah av aG aJ aI bJ bK bL bM bN bg bU bH bq bC bE bF bG)) else (iY.j0 k true ah av aG aJ aI bJ bK bL bM bN bg bU bH bq bC bE bF bG)) = some r := H
  have A6 := am lM
  clear lM
  by_cases c7 : t150 = 0
  ·rw [if_pos c7] at H
   have iB : (t150 == 0) = true := beq_iff_eq.mpr c7
   have j5 : (t150 != 0) = false := bne_eq_false_iff_eq.mpr c7
   clear c7
   (first | rw [iB] | (simp only [dS, eZ]; rw [iB]) | skip)
   by_cases c8 : ah = 5
   ·rw [if_pos c8] at H
    have l8 : (ah == 5) = true := beq_iff_eq.mpr c8
    have l9 : (ah != 5) = false := bne_eq_false_iff_eq.mpr c8
    clear c8
    have H' := am H
    clear H
    have Z_ := EG.out
    have aac := EH.out
    have := cz cu.out 0 rfl
    have := cz cu.out 1 rfl
    have := cz cu.out 2 rfl
    have := cz cu.out 3 rfl
    have := cz cu.out 4 rfl
    have := fz cu.out 0
    have := fz cu.out 1
    have := fz cu.out 2
    have := fz cu.out 3
    have := fz cu.out 4
    go_wp2_with (first | ((with_reducible refine bY (f := 14) rfl ?_); refine b_ (some 6) rfl rfl Tryz.func14 (by kernel_rfl) rfl #[.agg #[.int .i64 ah, .int .i64 av, .string aG, .bool aJ, .bool aI]] rfl (by (try simp only [List.map_toArray, List.map_cons, List.map_nil]); first | done | rfl | (simp only [List.length_drop, List.length_take]; rfl)) ?_; (with_reducible refine (jE.calls k ah av aG aJ aI t150 _ ?dB A6.out).mono ?_); (case dB => exact HT.out.below (by repeat (first | (with_reducible first | exact HB.out | apply bA | apply pN | apply au | refine bS ?_ kJ.out | refine bS ?_ mD.out) | exact HB.out))); rintro e sP ⟨rfl, hb⟩; refine ⟨_, rfl, ?_⟩; have ay := am (kB (g := oz) (o := .cells #[.int .i64 ah, .int .i64 av, .string aG, .bool aJ, .bool aI] 29 (0, 0)) (by (with_reducible repeat (first | apply kN | apply kD | apply kA)); exact cu.out) hb); have aA := am (kB (g := sW) (o := .cells #[.int .i64 bJ, .int .i64 bK, .string bL, .bool bM, .bool bN, .int .i64 bg, .bool bU, .string bH, .int .i64 bq, .int .i64 bC, .string bE, .bool bF, .bool bG] 31 (0, 0)) (by (with_reducible repeat (first | apply kN | apply kD | apply kA)); exact dG.out) hb); have aK := am (bP (by repeat (first | (with_reducible first | exact HB.out | apply bA | apply pN | apply au | refine bS ?_ kJ.out | refine bS ?_ mD.out) | exact HB.out)) hb); clear cu; clear dG; clear HB; have cu := ay; have dG := aA; have HB := aK; clear ay aA aK; (try clear hb); (try clear hb2); (try clear hk); (try clear hi); have := cz cu.out 0 rfl; have := cz cu.out 1 rfl; have := cz cu.out 2 rfl; have := cz cu.out 3 rfl; have := cz cu.out 4 rfl; have := fz cu.out 0; have := fz cu.out 1; have := fz cu.out 2; have := fz cu.out 3; have := fz cu.out 4))
    go_meet
    case rel => exact ⟨_, (true), (by first | rfl | (simp; done) | (simp [*]; done)), H', ⟨by first | omega | exact Nat.le_refl _⟩, ⟨by (with_reducible repeat (first | apply kN | apply kD | apply kA)); exact cu.out⟩, ⟨by (with_reducible repeat (first | apply kN | apply kD | apply kA)); exact dG.out⟩, ⟨by repeat (first | (with_reducible first | exact HB.out | apply bA | apply pN | apply au | refine bS ?_ kJ.out | refine bS ?_ mD.out) | exact HB.out)⟩⟩
   ·rw [if_neg c8] at H
    have l8 : (ah == 5) = false := beq_eq_false_iff_ne.mpr c8
    have l9 : (ah != 5) = true := bne_iff_ne.mpr c8
    have H' := am H
    clear H
    have RL := EG.out
    have RN := EH.out
    have := cz cu.out 0 rfl
    have := cz cu.out 1 rfl
    have := cz cu.out 2 rfl
    have := cz cu.out 3 rfl
    have := cz cu.out 4 rfl
    have := fz cu.out 0
    have := fz cu.out 1
    have := fz cu.out 2
    have := fz cu.out 3
    have := fz cu.out 4
    go_wp2_with (first | ((with_reducible refine bY (f := 14) rfl ?_); refine b_ (some 6) rfl rfl Tryz.func14 (by kernel_rfl) rfl #[.agg #[.int .i64 ah, .int .i64 av, .string aG, .bool aJ, .bool aI]] rfl (by (try simp only [List.map_toArray, List.map_cons, List.map_nil]); first | done | rfl | (simp only [List.length_drop, List.length_take]; rfl)) ?_; (with_reducible refine (jE.calls k ah av aG aJ aI t150 _ ?dB A6.out).mono ?_); (case dB => exact HT.out.below (by repeat (first | (with_reducible first | exact HB.out | apply bA | apply pN | apply au | refine bS ?_ kJ.out | refine bS ?_ mD.out) | exact HB.out))); rintro e yY ⟨rfl, hb⟩; refine ⟨_, rfl, ?_⟩; have ay := am (kB (g := oz) (o := .cells #[.int .i64 ah, .int .i64 av, .string aG, .bool aJ, .bool aI] 29 (0, 0)) (by (with_reducible repeat (first | apply kN | apply kD | apply kA)); exact cu.out) hb); have aA := am (kB (g := sW) (o := .cells #[.int .i64 bJ, .int .i64 bK, .string bL, .bool bM, .bool bN, .int .i64 bg, .bool bU, .string bH, .int .i64 bq, .int .i64 bC, .string bE, .bool bF, .bool bG] 31 (0, 0)) (by (with_reducible repeat (first | apply kN | apply kD | apply kA)); exact dG.out) hb); have aK := am (bP (by repeat (first | (with_reducible first | exact HB.out | apply bA | apply pN | apply au | refine bS ?_ kJ.out | refine bS ?_ mD.out) | exact HB.out)) hb); clear cu; clear dG; clear HB; have cu := ay; have dG := aA; have HB := aK; clear ay aA aK; (try clear hb); (try clear hb2); (try clear hk); (try clear hi); have := cz cu.out 0 rfl; have := cz cu.out 1 rfl; have := cz cu.out 2 rfl; have := cz cu.out 3 rfl; have := cz cu.out 4 rfl; have := fz cu.out 0; have := fz cu.out 1; have := fz cu.out 2; have := fz cu.out 3; have := fz cu.out 4))
    go_meet
    case rel => exact ⟨_, (aI), (by first | rfl | (simp; done) | (simp [*]; done)), H', ⟨by first | omega | exact Nat.le_refl _⟩, ⟨by (with_reducible repeat (first | apply kN | apply kD | apply kA)); exact cu.out⟩, ⟨by (with_reducible repeat (first | apply kN | apply kD | apply kA)); exact dG.out⟩, ⟨by repeat (first | (with_reducible first | exact HB.out | apply bA | apply pN | apply au | refine bS ?_ kJ.out | refine bS ?_ mD.out) | exact HB.out)⟩⟩
  ·rw [if_neg c7] at H
   have iB : (t150 == 0) = false := beq_eq_false_iff_ne.mpr c7
   have j5 : (t150 != 0) = true := bne_iff_ne.mpr c7
   (first | rw [iB] | (simp only [dS, eZ]; rw [iB]) | skip)
   have H' := am H
   clear H
   have aad := EG.out
   have aae := EH.out
   have := cz cu.out 0 rfl
   have := cz cu.out 1 rfl
   have := cz cu.out 2 rfl
   have := cz cu.out 3 rfl
   have := cz cu.out 4 rfl
   have := fz cu.out 0
   have := fz cu.out 1
   have := fz cu.out 2
   have := fz cu.out 3
   have := fz cu.out 4
   go_wp2_with (first | ((with_reducible refine bY (f := 14) rfl ?_); refine b_ (some 6) rfl rfl Tryz.func14 (by kernel_rfl) rfl #[.agg #[.int .i64 ah, .int .i64 av, .string aG, .bool aJ, .bool aI]] rfl (by (try simp only [List.map_toArray, List.map_cons, List.map_nil]); first | done | rfl | (simp only [List.length_drop, List.length_take]; rfl)) ?_; (with_reducible refine (jE.calls k ah av aG aJ aI t150 _ ?dB A6.out).mono ?_); (case dB => exact HT.out.below (by repeat (first | (with_reducible first | exact HB.out | apply bA | apply pN | apply au | refine bS ?_ kJ.out | refine bS ?_ mD.out) | exact HB.out))); rintro e DW ⟨rfl, hb⟩; refine ⟨_, rfl, ?_⟩; have ay := am (kB (g := oz) (o := .cells #[.int .i64 ah, .int .i64 av, .string aG, .bool aJ, .bool aI] 29 (0, 0)) (by (with_reducible repeat (first | apply kN | apply kD | apply kA)); exact cu.out) hb); have aA := am (kB (g := sW) (o := .cells #[.int .i64 bJ, .int .i64 bK, .string bL, .bool bM, .bool bN, .int .i64 bg, .bool bU, .string bH, .int .i64 bq, .int .i64 bC, .string bE, .bool bF, .bool bG] 31 (0, 0)) (by (with_reducible repeat (first | apply kN | apply kD | apply kA)); exact dG.out) hb); have aK := am (bP (by repeat (first | (with_reducible first | exact HB.out | apply bA | apply pN | apply au | refine bS ?_ kJ.out | refine bS ?_ mD.out) | exact HB.out)) hb); clear cu; clear dG; clear HB; have cu := ay; have dG := aA; have HB := aK; clear ay aA aK; (try clear hb); (try clear hb2); (try clear hk); (try clear hi)))
   go_meet
   case rel => exact ⟨_, (true), (by first | rfl | (simp; done) | (simp [*]; done)), H', ⟨by first | omega | exact Nat.le_refl _⟩, ⟨by (with_reducible repeat (first | apply kN | apply kD | apply kA)); exact cu.out⟩, ⟨by (with_reducible repeat (first | apply kN | apply kD | apply kA)); exact dG.out⟩, ⟨by repeat (first | (with_reducible first | exact HB.out | apply bA | apply pN | apply au | refine bS ?_ kJ.out | refine bS ?_ mD.out) | exact HB.out)⟩⟩
 case rest =>
  clear mO
  try clear c1
  try clear p2
  try clear c7
  try clear iB
  try clear j5
  try clear c8
  try clear l8
  try clear l9
  try clear c9
  try clear c13
  try clear c14
  try clear c17
  try clear GJ
  try clear GK
  try clear GL
  try clear GN
  try clear GQ
  try clear zh
  try clear zi
  try clear zk
  try clear zl
  try clear zm
  try clear BS
  try clear BU
  try clear BX
  try clear BZ
  try clear B_
  try clear Lr
  try clear Ls
  try clear Lu
  try clear Lv
  try clear Lx
  try clear DX
  try clear DY
  try clear DZ
  try clear D5
  try clear D6
  try clear GR
  try clear GU
  try clear GV
  try clear GX
  try clear GY
  try clear zn
  try clear zo
  try clear zq
  try clear zu
  try clear zw
  try clear Ca
  try clear Cb
  try clear Cc
  try clear Ce
  try clear Cg
  try clear LA
  try clear LC
  try clear LD
  try clear LG
  try clear LH
  try clear D7
  try clear D8
  try clear D9
  try clear D_
  try clear Ea
  obtain ⟨kq, H9, rfl, HA, HJ2, cu, dG, HB⟩ := hcut
  cases kq with
  | zero => exact absurd HA.out (by simp [iY.j0])
  | succ iP =>
   have H := HA.out
   clear HA
   simp only [iY.j0] at H
   by_cases c20 : H9 = true
   ·subst c20
    have H1 : (some 1) = some r := by rw [if_pos rfl] at H; exact H
    clear H
    have H := H1
    clear H1
    obtain rfl := Option.some.inj H
    go_wp2
    go_ret
    exact ⟨by first | rfl | (simp [aQ, aR] <;> rfl) | (simp [*, aQ, aR] <;> rfl), by repeat (first | (with_reducible first | exact HB.out | apply bA | apply pN | apply au | refine bS ?_ kJ.out | refine bS ?_ mD.out) | exact HB.out)⟩
   ·replace c20 := Bool.eq_false_iff.mpr c20
    subst c20
    have H1 : ((fP.f iP ah av aG aJ aI bJ bK bL bM bN bg bU bH bq bC bE bF bG).bind fun t151 => (if t151 = true then (some 0) else (some 6))) = some r := by rw [if_neg (show ¬ (false = true) by decide)] at H; exact H
    clear H
    have H := H1
    clear H1
    replace H := Option.bind_eq_some_iff.mp H
    obtain ⟨t151, TA, H⟩ := H
    replace H : (if t151 = true then (some 0) else (some 6)) = some r := H
    have TB := am TA
    clear TA
    by_cases iQ : t151 = true
    ·subst iQ
     have H1 : (some 0) = some r := by rw [if_pos rfl] at H; exact H
     clear H
     have H := H1
     clear H1
     obtain rfl := Option.some.inj H
     have aeL := EG.out
     have aeM := EH.out
     have := cz cu.out 0 rfl
     have := cz cu.out 1 rfl
     have := cz cu.out 2 rfl
     have := cz cu.out 3 rfl
     have := cz cu.out 4 rfl
     have := fz cu.out 0
     have := fz cu.out 1
     have := fz cu.out 2
     have := fz cu.out 3
     have := fz cu.out 4
     have := cz dG.out 0 rfl
     have := cz dG.out 1 rfl
     have := cz dG.out 2 rfl
     have := cz dG.out 3 rfl
     have := cz dG.out 4 rfl
     have := cz dG.out 5 rfl
     have := cz dG.out 6 rfl
     have := cz dG.out 7 rfl
     have := cz dG.out 8 rfl
     have := cz dG.out 9 rfl
     have := cz dG.out 10 rfl
     have := cz dG.out 11 rfl
     have := cz dG.out 12 rfl
     have := fz dG.out 0
     have := fz dG.out 1
     have := fz dG.out 2
     have := fz dG.out 3
     have := fz dG.out 4
     have := fz dG.out 5
     have := fz dG.out 6
     have := fz dG.out 7
     have := fz dG.out 8
     have := fz dG.out 9
     have := fz dG.out 10
     have := fz dG.out 11
     have := fz dG.out 12
     go_wp2_with (first | ((with_reducible refine bY (f := 15) rfl ?_); refine b_ (some 19) rfl rfl Tryz.func15 (by kernel_rfl) rfl #[.agg #[.int .i64 ah, .int .i64 av, .string aG, .bool aJ, .bool aI], .agg #[.int .i64 bJ, .int .i64 bK, .string bL, .bool bM, .bool bN, .int .i64 bg, .bool bU, .string bH, .int .i64 bq, .int .i64 bC, .string bE, .bool bF, .bool bG]] rfl (by (try simp only [List.map_toArray, List.map_cons, List.map_nil]); first | done | rfl | (simp only [List.length_drop, List.length_take]; rfl)) ?_; (with_reducible refine (fP.calls iP ah av aG aJ aI bJ bK bL bM bN bg bU bH bq bC bE bF bG true _ ?dB TB.out).mono ?_); (case dB => exact HT.out.below (by repeat (first | (with_reducible first | exact HB.out | apply bA | apply pN | apply au | refine bS ?_ kJ.out | refine bS ?_ mD.out) | exact HB.out))); rintro e Sg ⟨rfl, hb⟩; refine ⟨_, rfl, ?_⟩; have ay := am (kB (g := oz) (o := .cells #[.int .i64 ah, .int .i64 av, .string aG, .bool aJ, .bool aI] 29 (0, 0)) (by (with_reducible repeat (first | apply kN | apply kD | apply kA)); exact cu.out) hb); have aA := am (kB (g := sW) (o := .cells #[.int .i64 bJ, .int .i64 bK, .string bL, .bool bM, .bool bN, .int .i64 bg, .bool bU, .string bH, .int .i64 bq, .int .i64 bC, .string bE, .bool bF, .bool bG] 31 (0, 0)) (by (with_reducible repeat (first | apply kN | apply kD | apply kA)); exact dG.out) hb); have aK := am (bP (by repeat (first | (with_reducible first | exact HB.out | apply bA | apply pN | apply au | refine bS ?_ kJ.out | refine bS ?_ mD.out) | exact HB.out)) hb); clear cu; clear dG; clear HB; have cu := ay; have dG := aA; have HB := aK; clear ay aA aK; (try clear hb); (try clear hb2); (try clear hk); (try clear hi)))
     go_ret
     exact ⟨by first | rfl | (simp [aQ, aR] <;> rfl) | (simp [*, aQ, aR] <;> rfl), by repeat (first | (with_reducible first | exact HB.out | apply bA | apply pN | apply au | refine bS ?_ kJ.out | refine bS ?_ mD.out) | exact HB.out)⟩
    ·replace iQ := Bool.eq_false_iff.mpr iQ
     subst iQ
     have H1 : (some 6) = some r := by rw [if_neg (show ¬ (false = true) by decide)] at H; exact H
     clear H
     have H := H1
     clear H1
     obtain rfl := Option.some.inj H
     have at0 := EG.out
     have at1 := EH.out
     have := cz cu.out 0 rfl
     have := cz cu.out 1 rfl
     have := cz cu.out 2 rfl
     have := cz cu.out 3 rfl
     have := cz cu.out 4 rfl
     have := fz cu.out 0
     have := fz cu.out 1
     have := fz cu.out 2
     have := fz cu.out 3
     have := fz cu.out 4
     have := cz dG.out 0 rfl
     have := cz dG.out 1 rfl
     have := cz dG.out 2 rfl
     have := cz dG.out 3 rfl
     have := cz dG.out 4 rfl
     have := cz dG.out 5 rfl
     have := cz dG.out 6 rfl
     have := cz dG.out 7 rfl
     have := cz dG.out 8 rfl
     have := cz dG.out 9 rfl
     have := cz dG.out 10 rfl
     have := cz dG.out 11 rfl
     have := cz dG.out 12 rfl
     have := fz dG.out 0
     have := fz dG.out 1
     have := fz dG.out 2
     have := fz dG.out 3
     have := fz dG.out 4
     have := fz dG.out 5
     have := fz dG.out 6
     have := fz dG.out 7
     have := fz dG.out 8
     have := fz dG.out 9
     have := fz dG.out 10
     have := fz dG.out 11
     have := fz dG.out 12
     go_wp2_with (first | ((with_reducible refine bY (f := 15) rfl ?_); refine b_ (some 19) rfl rfl Tryz.func15 (by kernel_rfl) rfl #[.agg #[.int .i64 ah, .int .i64 av, .string aG, .bool aJ, .bool aI], .agg #[.int .i64 bJ, .int .i64 bK, .string bL, .bool bM, .bool bN, .int .i64 bg, .bool bU, .string bH, .int .i64 bq, .int .i64 bC, .string bE, .bool bF, .bool bG]] rfl (by (try simp only [List.map_toArray, List.map_cons, List.map_nil]); first | done | rfl | (simp only [List.length_drop, List.length_take]; rfl)) ?_; (with_reducible refine (fP.calls iP ah av aG aJ aI bJ bK bL bM bN bg bU bH bq bC bE bF bG false _ ?dB TB.out).mono ?_); (case dB => exact HT.out.below (by repeat (first | (with_reducible first | exact HB.out | apply bA | apply pN | apply au | refine bS ?_ kJ.out | refine bS ?_ mD.out) | exact HB.out))); rintro e w30 ⟨rfl, hb⟩; refine ⟨_, rfl, ?_⟩; have ay := am (kB (g := oz) (o := .cells #[.int .i64 ah, .int .i64 av, .string aG, .bool aJ, .bool aI] 29 (0, 0)) (by (with_reducible repeat (first | apply kN | apply kD | apply kA)); exact cu.out) hb); have aA := am (kB (g := sW) (o := .cells #[.int .i64 bJ, .int .i64 bK, .string bL, .bool bM, .bool bN, .int .i64 bg, .bool bU, .string bH, .int .i64 bq, .int .i64 bC, .string bE, .bool bF, .bool bG] 31 (0, 0)) (by (with_reducible repeat (first | apply kN | apply kD | apply kA)); exact dG.out) hb); have aK := am (bP (by repeat (first | (with_reducible first | exact HB.out | apply bA | apply pN | apply au | refine bS ?_ kJ.out | refine bS ?_ mD.out) | exact HB.out)) hb); clear cu; clear dG; clear HB; have cu := ay; have dG := aA; have HB := aK; clear ay aA aK; (try clear hb); (try clear hb2); (try clear hk); (try clear hi)))
     go_ret
     exact ⟨by first | rfl | (simp [aQ, aR] <;> rfl) | (simp [*, aQ, aR] <;> rfl), by repeat (first | (with_reducible first | exact HB.out | apply bA | apply pN | apply au | refine bS ?_ kJ.out | refine bS ?_ mD.out) | exact HB.out)⟩
noncomputable def strconv_Itoa.f (a0 : Int) : Option ByteArray := if -9223372036854775808 ≤ a0 then (if a0 ≤ 9223372036854775807 then some ⟨(Go.Lib.itoa a0).toArray⟩ else none) else none
theorem strconv_Itoa.calls (a0 : Int) (r : ByteArray) (w : World) (HT0 : Go.Proofs.fM.jv w) (h : strconv_Itoa.f a0 = some r) :
 Calls Tryz.prog 38 #[.int .i64 a0] w fun e w' => e = .returned (.string r) ∧ Below w.heap.size w w' := by
 unfold strconv_Itoa.f at h
 split at h
 case isFalse => cases h
 split at h
 case isFalse => cases h
 rename_i h0 h1
 obtain rfl := Option.some.inj h
 exact Go.Proofs.fM.YD a0 h0 h1 w HT0
noncomputable def yU.f (ah : Bool) (av : Int) : Option (ByteArray × Int) := (gK.f ah av).bind fun t153 => (if t153 = 0 then (if ah = true then ((strconv_Itoa.f av).bind fun t154 => (if 1 + t154.size ≤ 9223372036854775807 then (some ((⟨#[105]⟩ : ByteArray) ++ t154, 0)) else (none))) else ((strconv_Itoa.f av).bind fun t155 => (if 1 + t155.size ≤ 9223372036854775807 then (some ((⟨#[117]⟩ : ByteArray) ++ t155, 0)) else (none)))) else (some ((⟨#[]⟩ : ByteArray), t153)))
theorem yU.calls (ah : Bool) (av : Int) (r1 : ByteArray) (r2 : Int) (w : World) (HT0 : Go.Proofs.fM.jv w) (h : yU.f ah av = some (r1, r2)) :
 Calls Tryz.prog 68 #[.agg #[.bool ah, .int .i64 av]] w fun e w' => e = .returned (.tuple #[.string r1, .int .i64 r2]) ∧ Below w.heap.size w w' := by
 have mg := Tryz.underlying48
 have HB := am (Below.refl w.heap.size w)
 have HT := am HT0
 clear HT0
 have H : ((gK.f ah av).bind fun t153 => (if t153 = 0 then (if ah = true then ((strconv_Itoa.f av).bind fun t154 => (if 1 + t154.size ≤ 9223372036854775807 then (some ((⟨#[105]⟩ : ByteArray) ++ t154, 0)) else (none))) else ((strconv_Itoa.f av).bind fun t155 => (if 1 + t155.size ≤ 9223372036854775807 then (some ((⟨#[117]⟩ : ByteArray) ++ t155, 0)) else (none)))) else (some ((⟨#[]⟩ : ByteArray), t153)))) = some (r1, r2) := h
 clear h
 replace H := Option.bind_eq_some_iff.mp H
 obtain ⟨t153, f_, H⟩ := H
 replace H : (if t153 = 0 then (if ah = true then ((strconv_Itoa.f av).bind fun t154 => (if 1 + t154.size ≤ 9223372036854775807 then (some ((⟨#[105]⟩ : ByteArray) ++ t154, 0)) else (none))) else ((strconv_Itoa.f av).bind fun t155 => (if 1 + t155.size ≤ 9223372036854775807 then (some ((⟨#[117]⟩ : ByteArray) ++ t155, 0)) else (none)))) else (some ((⟨#[]⟩ : ByteArray), t153))) = some (r1, r2) := H
 have A2 := am f_
 clear f_
 by_cases c3 : t153 = 0
 ·rw [if_pos c3] at H
  have gH : (t153 == 0) = true := beq_iff_eq.mpr c3
  have uN : (t153 != 0) = false := bne_eq_false_iff_eq.mpr c3
  clear c3
  by_cases c4 : ah = true
  ·subst c4
   have H1 : ((strconv_Itoa.f av).bind fun t154 => (if 1 + t154.size ≤ 9223372036854775807 then (some ((⟨#[105]⟩ : ByteArray) ++ t154, 0)) else (none))) = some (r1, r2) := by rw [if_pos rfl] at H; exact H
   clear H
   have H := H1
   clear H1
   replace H := Option.bind_eq_some_iff.mp H
   obtain ⟨t154, jA, H⟩ := H
   replace H : (if 1 + t154.size ≤ 9223372036854775807 then (some ((⟨#[105]⟩ : ByteArray) ++ t154, 0)) else (none)) = some (r1, r2) := H
   have A5 := am jA
   clear jA
   by_cases c6 : 1 + t154.size ≤ 9223372036854775807
   ·rw [if_pos c6] at H
    have gT := eq_true c6
    have mP : decide (1 + t154.size ≤ 9223372036854775807) = true := decide_eq_true c6
    try have Sc : (9223372036854775807 < 1 + t154.size) = False := eq_false (Nat.not_lt.2 c6)
    simp only [Option.some.injEq, Prod.mk.injEq] at H
    obtain ⟨rfl, rfl⟩ := H
    go_enter Tryz.func68, Tryz.ntmps68
    go_wp2_with (first | ((with_reducible refine cK (N := 1) rfl ?_); refine cO ?hg (N := 1) ?hd (cs := #[.bool true, .int .i64 av]) (t := 48) ?hr ?_; (case hd => rfl); (case hg => rfl); (case hr => first | (go_simp; done) | (go_simp; rfl)); intro oC hg w7 aV hb; have ay := am (bP (by repeat (first | (with_reducible first | exact HB.out | apply bA | apply pN | apply au) | exact HB.out)) hb); have aA := am (aV); have aK := am ((by rw [hg]; exact (bZ (by repeat (first | (with_reducible first | exact HB.out | apply bA | apply pN | apply au) | exact HB.out))) : w.heap.size ≤ oC)); have aU := am ((by rw [hg]; exact (bZ (by repeat (first | (with_reducible first | exact HB.out | apply bA | apply pN | apply au) | exact HB.out))) : w.heap.size ≤ oC)); clear HB; have HB := ay; have gF := aA; have TD := aK; have o_ := aU; clear ay aA aK aU; clear hb aV hg; have := cz gF.out 0 rfl; have := cz gF.out 1 rfl; have := fz gF.out 0; have := fz gF.out 1) | ((with_reducible refine bY (f := 64) rfl ?_); refine b_ (some 7) rfl rfl Tryz.func64 (by kernel_rfl) rfl #[.agg #[.bool true, .int .i64 av]] rfl (by (try simp only [List.map_toArray, List.map_cons, List.map_nil]); first | done | rfl | (simp only [List.length_drop, List.length_take]; rfl)) ?_; (with_reducible refine (gK.calls true av t153 _ A2.out).mono ?_); rintro e w9 ⟨rfl, hb⟩; refine ⟨_, rfl, ?_⟩; have ay := am (kB (g := oC) (o := .cells #[.bool true, .int .i64 av] 48 (0, 0)) (by (with_reducible repeat (first | apply kN | apply kD | apply kA)); exact gF.out) hb); have aA := am (bP (by repeat (first | (with_reducible first | exact HB.out | apply bA | apply pN | apply au | refine bS ?_ o_.out) | exact HB.out)) hb); clear gF; clear HB; have gF := ay; have HB := aA; clear ay aA; (try clear hb); (try clear hb2); (try clear hk); (try clear hi); have := cz gF.out 0 rfl; have := cz gF.out 1 rfl; have := fz gF.out 0; have := fz gF.out 1) | ((with_reducible refine bY (f := 38) rfl ?_); refine b_ (some 16) rfl rfl Tryz.func38 (by kernel_rfl) rfl #[.int .i64 av] rfl (by (try simp only [List.map_toArray, List.map_cons, List.map_nil]); first | done | rfl | (simp only [List.length_drop, List.length_take]; rfl)) ?_; (with_reducible refine (strconv_Itoa.calls av t154 _ ?dB A5.out).mono ?_); (case dB => exact HT.out.below (by repeat (first | (with_reducible first | exact HB.out | apply bA | apply pN | apply au | refine bS ?_ o_.out) | exact HB.out))); rintro e sP ⟨rfl, hb⟩; refine ⟨_, rfl, ?_⟩; have ay := am (kB (g := oC) (o := .cells #[.bool true, .int .i64 av] 48 (0, 0)) (by (with_reducible repeat (first | apply kN | apply kD | apply kA)); exact gF.out) hb); have aA := am (bP (by repeat (first | (with_reducible first | exact HB.out | apply bA | apply pN | apply au | refine bS ?_ o_.out) | exact HB.out)) hb); clear gF; clear HB; have gF := ay; have HB := aA; clear ay aA; (try clear hb); (try clear hb2); (try clear hk); (try clear hi)))
    go_ret2
    exact ⟨by first | rfl | (simp [aQ, aR] <;> rfl) | (simp [*, aQ, aR] <;> rfl), by repeat (first | (with_reducible first | exact HB.out | apply bA | apply pN | apply au | refine bS ?_ o_.out) | exact HB.out)⟩
   ·rw [if_neg c6] at H
    exact absurd H (by simp)
  ·replace c4 := Bool.eq_false_iff.mpr c4
   subst c4
   have H1 : ((strconv_Itoa.f av).bind fun t155 => (if 1 + t155.size ≤ 9223372036854775807 then (some ((⟨#[117]⟩ : ByteArray) ++ t155, 0)) else (none))) = some (r1, r2) := by rw [if_neg (show ¬ (false = true) by decide)] at H; exact H
   clear H
   have H := H1
   clear H1
   replace H := Option.bind_eq_some_iff.mp H
   obtain ⟨t155, qy, H⟩ := H
   replace H : (if 1 + t155.size ≤ 9223372036854775807 then (some ((⟨#[117]⟩ : ByteArray) ++ t155, 0)) else (none)) = some (r1, r2) := H
   have lN := am qy
   clear qy
   by_cases c13 : 1 + t155.size ≤ 9223372036854775807
   ·rw [if_pos c13] at H
    have kY := eq_true c13
    have zH : decide (1 + t155.size ≤ 9223372036854775807) = true := decide_eq_true c13
    try have adB : (9223372036854775807 < 1 + t155.size) = False := eq_false (Nat.not_lt.2 c13)
    simp only [Option.some.injEq, Prod.mk.injEq] at H
    obtain ⟨rfl, rfl⟩ := H
    go_enter Tryz.func68, Tryz.ntmps68
    go_wp2_with (first | ((with_reducible refine cK (N := 1) rfl ?_); refine cO ?hg (N := 1) ?hd (cs := #[.bool false, .int .i64 av]) (t := 48) ?hr ?_; (case hd => rfl); (case hg => rfl); (case hr => first | (go_simp; done) | (go_simp; rfl)); intro oC hg y9 aV hb; have ay := am (bP (by repeat (first | (with_reducible first | exact HB.out | apply bA | apply pN | apply au) | exact HB.out)) hb); have aA := am (aV); have aK := am ((by rw [hg]; exact (bZ (by repeat (first | (with_reducible first | exact HB.out | apply bA | apply pN | apply au) | exact HB.out))) : w.heap.size ≤ oC)); have aU := am ((by rw [hg]; exact (bZ (by repeat (first | (with_reducible first | exact HB.out | apply bA | apply pN | apply au) | exact HB.out))) : w.heap.size ≤ oC)); clear HB; have HB := ay; have gF := aA; have TD := aK; have o_ := aU; clear ay aA aK aU; clear hb aV hg; have := cz gF.out 0 rfl; have := cz gF.out 1 rfl; have := fz gF.out 0; have := fz gF.out 1) | ((with_reducible refine bY (f := 64) rfl ?_); refine b_ (some 7) rfl rfl Tryz.func64 (by kernel_rfl) rfl #[.agg #[.bool false, .int .i64 av]] rfl (by (try simp only [List.map_toArray, List.map_cons, List.map_nil]); first | done | rfl | (simp only [List.length_drop, List.length_take]; rfl)) ?_; (with_reducible refine (gK.calls false av t153 _ A2.out).mono ?_); rintro e w16 ⟨rfl, hb⟩; refine ⟨_, rfl, ?_⟩; have ay := am (kB (g := oC) (o := .cells #[.bool false, .int .i64 av] 48 (0, 0)) (by (with_reducible repeat (first | apply kN | apply kD | apply kA)); exact gF.out) hb); have aA := am (bP (by repeat (first | (with_reducible first | exact HB.out | apply bA | apply pN | apply au | refine bS ?_ o_.out) | exact HB.out)) hb); clear gF; clear HB; have gF := ay; have HB := aA; clear ay aA; (try clear hb); (try clear hb2); (try clear hk); (try clear hi); have := cz gF.out 0 rfl; have := cz gF.out 1 rfl; have := fz gF.out 0; have := fz gF.out 1) | ((with_reducible refine bY (f := 38) rfl ?_); refine b_ (some 16) rfl rfl Tryz.func38 (by kernel_rfl) rfl #[.int .i64 av] rfl (by (try simp only [List.map_toArray, List.map_cons, List.map_nil]); first | done | rfl | (simp only [List.length_drop, List.length_take]; rfl)) ?_; (with_reducible refine (strconv_Itoa.calls av t155 _ ?dB lN.out).mono ?_); (case dB => exact HT.out.below (by repeat (first | (with_reducible first | exact HB.out | apply bA | apply pN | apply au | refine bS ?_ o_.out) | exact HB.out))); rintro e Sb ⟨rfl, hb⟩; refine ⟨_, rfl, ?_⟩; have ay := am (kB (g := oC) (o := .cells #[.bool false, .int .i64 av] 48 (0, 0)) (by (with_reducible repeat (first | apply kN | apply kD | apply kA)); exact gF.out) hb); have aA := am (bP (by repeat (first | (with_reducible first | exact HB.out | apply bA | apply pN | apply au | refine bS ?_ o_.out) | exact HB.out)) hb); clear gF; clear HB; have gF := ay; have HB := aA; clear ay aA; (try clear hb); (try clear hb2); (try clear hk); (try clear hi)))
    go_ret2
    exact ⟨by first | rfl | (simp [aQ, aR] <;> rfl) | (simp [*, aQ, aR] <;> rfl), by repeat (first | (with_reducible first | exact HB.out | apply bA | apply pN | apply au | refine bS ?_ o_.out) | exact HB.out)⟩
   ·rw [if_neg c13] at H
    exact absurd H (by simp)
 ·rw [if_neg c3] at H
  have gH : (t153 == 0) = false := beq_eq_false_iff_ne.mpr c3
  have uN : (t153 != 0) = true := bne_iff_ne.mpr c3
  simp only [Option.some.injEq, Prod.mk.injEq] at H
  obtain ⟨rfl, rfl⟩ := H
  go_enter Tryz.func68, Tryz.ntmps68
  go_wp2_with (first | ((with_reducible refine cK (N := 1) rfl ?_); refine cO ?hg (N := 1) ?hd (cs := #[.bool ah, .int .i64 av]) (t := 48) ?hr ?_; (case hd => rfl); (case hg => rfl); (case hr => first | (go_simp; done) | (go_simp; rfl)); intro oC hg DW aV hb; have ay := am (bP (by repeat (first | (with_reducible first | exact HB.out | apply bA | apply pN | apply au) | exact HB.out)) hb); have aA := am (aV); have aK := am ((by rw [hg]; exact (bZ (by repeat (first | (with_reducible first | exact HB.out | apply bA | apply pN | apply au) | exact HB.out))) : w.heap.size ≤ oC)); have aU := am ((by rw [hg]; exact (bZ (by repeat (first | (with_reducible first | exact HB.out | apply bA | apply pN | apply au) | exact HB.out))) : w.heap.size ≤ oC)); clear HB; have HB := ay; have gF := aA; have TD := aK; have o_ := aU; clear ay aA aK aU; clear hb aV hg; have := cz gF.out 0 rfl; have := cz gF.out 1 rfl; have := fz gF.out 0; have := fz gF.out 1) | ((with_reducible refine bY (f := 64) rfl ?_); refine b_ (some 7) rfl rfl Tryz.func64 (by kernel_rfl) rfl #[.agg #[.bool ah, .int .i64 av]] rfl (by (try simp only [List.map_toArray, List.map_cons, List.map_nil]); first | done | rfl | (simp only [List.length_drop, List.length_take]; rfl)) ?_; (with_reducible refine (gK.calls ah av t153 _ A2.out).mono ?_); rintro e Eh ⟨rfl, hb⟩; refine ⟨_, rfl, ?_⟩; have ay := am (kB (g := oC) (o := .cells #[.bool ah, .int .i64 av] 48 (0, 0)) (by (with_reducible repeat (first | apply kN | apply kD | apply kA)); exact gF.out) hb); have aA := am (bP (by repeat (first | (with_reducible first | exact HB.out | apply bA | apply pN | apply au | refine bS ?_ o_.out) | exact HB.out)) hb); clear gF; clear HB; have gF := ay; have HB := aA; clear ay aA; (try clear hb); (try clear hb2); (try clear hk); (try clear hi)))
  go_ret2
  exact ⟨by first | rfl | (simp [aQ, aR] <;> rfl) | (simp [*, aQ, aR] <;> rfl), by repeat (first | (with_reducible first | exact HB.out | apply bA | apply pN | apply au | refine bS ?_ o_.out) | exact HB.out)⟩
mutual
noncomputable def iH.j0 : Nat → ByteArray → Int → Int → ByteArray → Bool → Bool → Option (ByteArray × Int)
 | 0, _, _, _, _, _, _ => none
 | k + 1, x5, xH, H_, Ct, EI, Ia => if EI = true then (if x5.size + 1 ≤ 9223372036854775807 then (iH.j1 k (x5 ++ (⟨#[63]⟩ : ByteArray)) xH H_ Ct EI Ia) else (none)) else (iH.j1 k x5 xH H_ Ct EI Ia)
noncomputable def iH.j1 : Nat → ByteArray → Int → Int → ByteArray → Bool → Bool → Option (ByteArray × Int)
 | 0, _, _, _, _, _, _ => none
 | k + 1, x5, xH, H_, Ct, EI, Ia => if xH = 0 then (if x5.size + 4 ≤ 9223372036854775807 then (some (x5 ++ (⟨#[118, 111, 105, 100]⟩ : ByteArray), 0)) else (none)) else (if xH = 1 then (if x5.size + 4 ≤ 9223372036854775807 then (some (x5 ++ (⟨#[98, 111, 111, 108]⟩ : ByteArray), 0)) else (none)) else (if xH = 4 then (if x5.size + 4 ≤ 9223372036854775807 then (some (x5 ++ (⟨#[116, 121, 112, 101]⟩ : ByteArray), 0)) else (none)) else (if xH = 5 then (if x5.size + Ct.size ≤ 9223372036854775807 then (some (x5 ++ Ct, 0)) else (none)) else ((kH.f xH H_ Ct EI Ia).bind fun TF => ((yU.f TF.1 TF.2).bind fun EJ => (if x5.size + EJ.1.size ≤ 9223372036854775807 then (some (x5 ++ EJ.1, 0)) else (none)))))))
end
noncomputable def iH.f (k : Nat) (ah : Int) (av : Int) (aG : ByteArray) (aJ : Bool) (aI : Bool) : Option (ByteArray × Int) := (jE.f k ah av aG aJ aI).bind fun t157 => (if t157 = 0 then (if aI = true then (if 1 ≤ 9223372036854775807 then (iH.j0 k ((⟨#[]⟩ : ByteArray) ++ (⟨#[33]⟩ : ByteArray)) ah av aG aJ aI) else (none)) else (iH.j0 k (⟨#[]⟩ : ByteArray) ah av aG aJ aI)) else (some ((⟨#[]⟩ : ByteArray), t157)))
theorem iH.calls (k : Nat) (ah : Int) (av : Int) (aG : ByteArray) (aJ : Bool) (aI : Bool) (r1 : ByteArray) (r2 : Int) (w : World) (HT0 : Go.Proofs.fM.jv w) (h : iH.f k ah av aG aJ aI = some (r1, r2)) :
 Calls Tryz.prog 36 #[.agg #[.int .i64 ah, .int .i64 av, .string aG, .bool aJ, .bool aI]] w fun e w' => e = .returned (.tuple #[.string r1, .int .i64 r2]) ∧ Below w.heap.size w w' := by
 have lI := Tryz.underlying29
 have HB := am (Below.refl w.heap.size w)
 have HT := am HT0
 clear HT0
 have H : ((jE.f k ah av aG aJ aI).bind fun t157 => (if t157 = 0 then (if aI = true then (if 1 ≤ 9223372036854775807 then (iH.j0 k ((⟨#[]⟩ : ByteArray) ++ (⟨#[33]⟩ : ByteArray)) ah av aG aJ aI) else (none)) else (iH.j0 k (⟨#[]⟩ : ByteArray) ah av aG aJ aI)) else (some ((⟨#[]⟩ : ByteArray), t157)))) = some (r1, r2) := h
 clear h
 replace H := Option.bind_eq_some_iff.mp H
 obtain ⟨t157, f_, H⟩ := H
 replace H : (if t157 = 0 then (if aI = true then (if 1 ≤ 9223372036854775807 then (iH.j0 k ((⟨#[]⟩ : ByteArray) ++ (⟨#[33]⟩ : ByteArray)) ah av aG aJ aI) else (none)) else (iH.j0 k (⟨#[]⟩ : ByteArray) ah av aG aJ aI)) else (some ((⟨#[]⟩ : ByteArray), t157))) = some (r1, r2) := H
 have A2 := am f_
 clear f_
 by_cases c3 : t157 = 0
 ·rw [if_pos c3] at H
  have gH : (t157 == 0) = true := beq_iff_eq.mpr c3
  have uN : (t157 != 0) = false := bne_eq_false_iff_eq.mpr c3
  clear c3
  have M9 := am H
  clear H
  go_enter Tryz.func36, Tryz.ntmps36
  go_upto_if 14 with (first | ((with_reducible refine cK (N := 1) rfl ?_); refine cO ?hg (N := 1) ?hd (cs := #[.int .i64 ah, .int .i64 av, .string aG, .bool aJ, .bool aI]) (t := 29) ?hr ?_; (case hd => rfl); (case hg => rfl); (case hr => first | (go_simp; done) | (go_simp; rfl)); intro rH hg w5 aV hb; have ay := am (bP (by repeat (first | (with_reducible first | exact HB.out | apply bA | apply pN | apply au) | exact HB.out)) hb); have aA := am (aV); have aK := am ((by rw [hg]; exact (bZ (by repeat (first | (with_reducible first | exact HB.out | apply bA | apply pN | apply au) | exact HB.out))) : w.heap.size ≤ rH)); have aU := am ((by rw [hg]; exact (bZ (by repeat (first | (with_reducible first | exact HB.out | apply bA | apply pN | apply au) | exact HB.out))) : w.heap.size ≤ rH)); clear HB; have HB := ay; have bR := aA; have aeN := aK; have kZ := aU; clear ay aA aK aU; clear hb aV hg; have := cz bR.out 0 rfl; have := cz bR.out 1 rfl; have := cz bR.out 2 rfl; have := cz bR.out 3 rfl; have := cz bR.out 4 rfl; have := fz bR.out 0; have := fz bR.out 1; have := fz bR.out 2; have := fz bR.out 3; have := fz bR.out 4) | ((with_reducible refine bY (f := 14) rfl ?_); refine b_ (some 9) rfl rfl Tryz.func14 (by kernel_rfl) rfl #[.agg #[.int .i64 ah, .int .i64 av, .string aG, .bool aJ, .bool aI]] rfl (by (try simp only [List.map_toArray, List.map_cons, List.map_nil]); first | done | rfl | (simp only [List.length_drop, List.length_take]; rfl)) ?_; (with_reducible refine (jE.calls k ah av aG aJ aI t157 _ ?dB A2.out).mono ?_); (case dB => exact HT.out.below (by repeat (first | (with_reducible first | exact HB.out | apply bA | apply pN | apply au | refine bS ?_ kZ.out) | exact HB.out))); rintro e w7 ⟨rfl, hb⟩; refine ⟨_, rfl, ?_⟩; have ay := am (kB (g := rH) (o := .cells #[.int .i64 ah, .int .i64 av, .string aG, .bool aJ, .bool aI] 29 (0, 0)) (by (with_reducible repeat (first | apply kN | apply kD | apply kA)); exact bR.out) hb); have aA := am (bP (by repeat (first | (with_reducible first | exact HB.out | apply bA | apply pN | apply au | refine bS ?_ kZ.out) | exact HB.out)) hb); clear bR; clear HB; have bR := ay; have HB := aA; clear ay aA; (try clear hb); (try clear hb2); (try clear hk); (try clear hi); have := cz bR.out 0 rfl; have := cz bR.out 1 rfl; have := cz bR.out 2 rfl; have := cz bR.out 3 rfl; have := cz bR.out 4 rfl; have := fz bR.out 0; have := fz bR.out 1; have := fz bR.out 2; have := fz bR.out 3; have := fz bR.out 4))
  (try simp only [Act.put, List.setIfInBounds_toArray, List.set_cons_zero, List.set_cons_succ])
  go_cut [5] (fun v5 wc => ∃ (kq : Nat) (rJ : ByteArray), v5 = .string rJ ∧ bI (iH.j0 kq rJ ah av aG aJ aI = some (r1, r2)) ∧ bI (kq ≤ k) ∧ bI (wc.heap[rH]? = some (.cells #[.int .i64 ah, .int .i64 av, .string aG, .bool aJ, .bool aI] 29 (0, 0))) ∧ bI (Below w.heap.size w wc))
  case first =>
   have H := M9.out
   clear M9
   by_cases c9 : aI = true
   ·subst c9
    have H1 : (if 1 ≤ 9223372036854775807 then (iH.j0 k ((⟨#[]⟩ : ByteArray) ++ (⟨#[33]⟩ : ByteArray)) ah av aG aJ true) else (none)) = some (r1, r2) := by rw [if_pos rfl] at H; exact H
    clear H
    have H := H1
    clear H1
    by_cases c10 : 1 ≤ 9223372036854775807
    ·rw [if_pos c10] at H
     have zT := eq_true c10
     have M_ : decide (1 ≤ 9223372036854775807) = true := decide_eq_true c10
     try have TG : (9223372036854775807 < 1) = False := eq_false (Nat.not_lt.2 c10)
     clear c10
     have H' := am H
     clear H
     go_wp2
     go_meet
     case rel => exact ⟨_, ((⟨#[]⟩ : ByteArray) ++ (⟨#[33]⟩ : ByteArray)), (by first | rfl | (simp; done) | (simp [*]; done)), H', ⟨by first | omega | exact Nat.le_refl _⟩, ⟨by (with_reducible repeat (first | apply kN | apply kD | apply kA)); exact bR.out⟩, ⟨by repeat (first | (with_reducible first | exact HB.out | apply bA | apply pN | apply au | refine bS ?_ kZ.out) | exact HB.out)⟩⟩
    ·rw [if_neg c10] at H
     exact absurd H (by simp)
   ·replace c9 := Bool.eq_false_iff.mpr c9
    subst c9
    have H1 : (iH.j0 k (⟨#[]⟩ : ByteArray) ah av aG aJ false) = some (r1, r2) := by rw [if_neg (show ¬ (false = true) by decide)] at H; exact H
    clear H
    have H := H1
    clear H1
    have H' := am H
    clear H
    go_wp2
    go_meet
    case rel => exact ⟨_, ((⟨#[]⟩ : ByteArray)), (by first | rfl | (simp; done) | (simp [*]; done)), H', ⟨by first | omega | exact Nat.le_refl _⟩, ⟨by (with_reducible repeat (first | apply kN | apply kD | apply kA)); exact bR.out⟩, ⟨by repeat (first | (with_reducible first | exact HB.out | apply bA | apply pN | apply au | refine bS ?_ kZ.out) | exact HB.out)⟩⟩
  case rest =>
   clear M9
   try clear c1
   try clear p2
   try clear c3
   try clear gH
   try clear uN
   try clear c9
   try clear c10
   try clear zT
   try clear M_
   try clear TG
   try clear aeO
   try clear aeP
   try clear aeQ
   try clear aeR
   try clear aeS
   try clear aeT
   try clear aeU
   try clear aeV
   try clear aeW
   try clear aeX
   try clear aeY
   try clear aeZ
   try clear ae0
   try clear ae1
   try clear ae2
   try clear ae3
   try clear ae4
   try clear ae5
   try clear ae6
   try clear ae7
   obtain ⟨kq, rJ, rfl, HA, TH, bR, HB⟩ := hcut
   cases kq with
   | zero => exact absurd HA.out (by simp [iH.j0])
   | succ Na =>
    have H := HA.out
    clear HA
    simp only [iH.j0] at H
    have Nb := am H
    clear H
    have := cz bR.out 0 rfl
    have := cz bR.out 1 rfl
    have := cz bR.out 2 rfl
    have := cz bR.out 3 rfl
    have := cz bR.out 4 rfl
    have := fz bR.out 0
    have := fz bR.out 1
    have := fz bR.out 2
    have := fz bR.out 3
    have := fz bR.out 4
    go_upto_if 18 with (fail)
    go_cut [5] (fun v5 wc => ∃ (kq : Nat) (jN : ByteArray), v5 = .string jN ∧ bI (iH.j1 kq jN ah av aG aJ aI = some (r1, r2)) ∧ bI (kq ≤ Na) ∧ bI (wc.heap[rH]? = some (.cells #[.int .i64 ah, .int .i64 av, .string aG, .bool aJ, .bool aI] 29 (0, 0))) ∧ bI (Below w.heap.size w wc))
    case first =>
     have H := Nb.out
     clear Nb
     by_cases c13 : aJ = true
     ·subst c13
      have H1 : (if rJ.size + 1 ≤ 9223372036854775807 then (iH.j1 Na (rJ ++ (⟨#[63]⟩ : ByteArray)) ah av aG true aI) else (none)) = some (r1, r2) := by rw [if_pos rfl] at H; exact H
      clear H
      have H := H1
      clear H1
      by_cases c14 : rJ.size + 1 ≤ 9223372036854775807
      ·rw [if_pos c14] at H
       have Cm := eq_true c14
       have Nc : decide (rJ.size + 1 ≤ 9223372036854775807) = true := decide_eq_true c14
       try have TI : (9223372036854775807 < rJ.size + 1) = False := eq_false (Nat.not_lt.2 c14)
       have H' := am H
       clear H
       go_wp2
       go_meet
       case rel => exact ⟨_, (rJ ++ (⟨#[63]⟩ : ByteArray)), (by first | rfl | (simp; done) | (simp [*]; done)), H', ⟨by have := TH.out; first | omega | exact Nat.le_refl _⟩, ⟨by (with_reducible repeat (first | apply kN | apply kD | apply kA)); exact bR.out⟩, ⟨by repeat (first | (with_reducible first | exact HB.out | apply bA | apply pN | apply au | refine bS ?_ kZ.out) | exact HB.out)⟩⟩
      ·rw [if_neg c14] at H
       exact absurd H (by simp)
     ·replace c13 := Bool.eq_false_iff.mpr c13
      subst c13
      have H1 : (iH.j1 Na rJ ah av aG false aI) = some (r1, r2) := by rw [if_neg (show ¬ (false = true) by decide)] at H; exact H
      clear H
      have H := H1
      clear H1
      have H' := am H
      clear H
      go_wp2
      go_meet
      case rel => exact ⟨_, (rJ), (by first | rfl | (simp; done) | (simp [*]; done)), H', ⟨by have := TH.out; first | omega | exact Nat.le_refl _⟩, ⟨by (with_reducible repeat (first | apply kN | apply kD | apply kA)); exact bR.out⟩, ⟨by repeat (first | (with_reducible first | exact HB.out | apply bA | apply pN | apply au | refine bS ?_ kZ.out) | exact HB.out)⟩⟩
    case rest =>
     clear Nb
     try clear c1
     try clear p2
     try clear c3
     try clear gH
     try clear uN
     try clear c9
     try clear c10
     try clear zT
     try clear M_
     try clear TG
     try clear c13
     try clear c14
     try clear Cm
     try clear Nc
     try clear TI
     try clear zh
     try clear zi
     try clear zk
     try clear zl
     try clear zm
     try clear aeO
     try clear aeP
     try clear aeQ
     try clear aeR
     try clear aeS
     try clear aeT
     try clear aeU
     try clear aeV
     try clear aeW
     try clear aeX
     try clear zn
     try clear zo
     try clear zq
     try clear zu
     try clear zw
     try clear aeY
     try clear aeZ
     try clear ae0
     try clear ae1
     try clear ae2
     try clear ae3
     try clear ae4
     try clear ae5
     try clear ae6
     try clear ae7
     try clear p2
     obtain ⟨kq, jN, rfl, HA, at5, bR, HB⟩ := hcut
     cases kq with
     | zero => exact absurd HA.out (by simp [iH.j1])
     | succ at6 =>
      have H := HA.out
      clear HA
      simp only [iH.j1] at H
      by_cases c15 : ah = 0
      ·rw [if_pos c15] at H
       have sV : (ah == 0) = true := beq_iff_eq.mpr c15
       have xw : (ah != 0) = false := bne_eq_false_iff_eq.mpr c15
       clear c15
       by_cases c16 : jN.size + 4 ≤ 9223372036854775807
       ·rw [if_pos c16] at H
        have Ef := eq_true c16
        have LQ : decide (jN.size + 4 ≤ 9223372036854775807) = true := decide_eq_true c16
        try have LU : (9223372036854775807 < jN.size + 4) = False := eq_false (Nat.not_lt.2 c16)
        simp only [Option.some.injEq, Prod.mk.injEq] at H
        obtain ⟨rfl, rfl⟩ := H
        have := cz bR.out 0 rfl
        have := cz bR.out 1 rfl
        have := cz bR.out 2 rfl
        have := cz bR.out 3 rfl
        have := cz bR.out 4 rfl
        have := fz bR.out 0
        have := fz bR.out 1
        have := fz bR.out 2
        have := fz bR.out 3
        have := fz bR.out 4
        go_wp2
        go_ret2
        exact ⟨by first | rfl | (simp [aQ, aR] <;> rfl) | (simp [*, aQ, aR] <;> rfl), by repeat (first | (with_reducible first | exact HB.out | apply bA | apply pN | apply au | refine bS ?_ kZ.out) | exact HB.out)⟩
       ·rw [if_neg c16] at H
        exact absurd H (by simp)
      ·rw [if_neg c15] at H
       have sV : (ah == 0) = false := beq_eq_false_iff_ne.mpr c15
       have xw : (ah != 0) = true := bne_iff_ne.mpr c15
       by_cases c18 : ah = 1
       ·rw [if_pos c18] at H
        have BQ : (ah == 1) = true := beq_iff_eq.mpr c18
        have BR : (ah != 1) = false := bne_eq_false_iff_eq.mpr c18
        clear c18
        by_cases c19 : jN.size + 4 ≤ 9223372036854775807
        ·rw [if_pos c19] at H
         have Gy := eq_true c19
         have Gz : decide (jN.size + 4 ≤ 9223372036854775807) = true := decide_eq_true c19
         try have at7 : (9223372036854775807 < jN.size + 4) = False := eq_false (Nat.not_lt.2 c19)
         simp only [Option.some.injEq, Prod.mk.injEq] at H
         obtain ⟨rfl, rfl⟩ := H
         have := cz bR.out 0 rfl
         have := cz bR.out 1 rfl
         have := cz bR.out 2 rfl
         have := cz bR.out 3 rfl
         have := cz bR.out 4 rfl
         have := fz bR.out 0
         have := fz bR.out 1
         have := fz bR.out 2
         have := fz bR.out 3
         have := fz bR.out 4
         go_wp2
         go_ret2
         exact ⟨by first | rfl | (simp [aQ, aR] <;> rfl) | (simp [*, aQ, aR] <;> rfl), by repeat (first | (with_reducible first | exact HB.out | apply bA | apply pN | apply au | refine bS ?_ kZ.out) | exact HB.out)⟩
        ·rw [if_neg c19] at H
         exact absurd H (by simp)
       ·rw [if_neg c18] at H
        have BQ : (ah == 1) = false := beq_eq_false_iff_ne.mpr c18
        have BR : (ah != 1) = true := bne_iff_ne.mpr c18
        by_cases c21 : ah = 4
        ·rw [if_pos c21] at H
         have MR : (ah == 4) = true := beq_iff_eq.mpr c21
         have ae8 : (ah != 4) = false := bne_eq_false_iff_eq.mpr c21
         clear c21
         by_cases iQ : jN.size + 4 ≤ 9223372036854775807
         ·rw [if_pos iQ] at H
          have sQ := eq_true iQ
          have aua : decide (jN.size + 4 ≤ 9223372036854775807) = true := decide_eq_true iQ
          try have aub : (9223372036854775807 < jN.size + 4) = False := eq_false (Nat.not_lt.2 iQ)
          simp only [Option.some.injEq, Prod.mk.injEq] at H
          obtain ⟨rfl, rfl⟩ := H
          have := cz bR.out 0 rfl
          have := cz bR.out 1 rfl
          have := cz bR.out 2 rfl
          have := cz bR.out 3 rfl
          have := cz bR.out 4 rfl
          have := fz bR.out 0
          have := fz bR.out 1
          have := fz bR.out 2
          have := fz bR.out 3
          have := fz bR.out 4
          go_wp2
          go_ret2
          exact ⟨by first | rfl | (simp [aQ, aR] <;> rfl) | (simp [*, aQ, aR] <;> rfl), by repeat (first | (with_reducible first | exact HB.out | apply bA | apply pN | apply au | refine bS ?_ kZ.out) | exact HB.out)⟩
         ·rw [if_neg iQ] at H
          exact absurd H (by simp)
        ·rw [if_neg c21] at H
         have MR : (ah == 4) = false := beq_eq_false_iff_ne.mpr c21
         have ae8 : (ah != 4) = true := bne_iff_ne.mpr c21
         by_cases c24 : ah = 5
         ·rw [if_pos c24] at H
          have y7 : (ah == 5) = true := beq_iff_eq.mpr c24
          have DK : (ah != 5) = false := bne_eq_false_iff_eq.mpr c24
          clear c24
          by_cases iZ : jN.size + aG.size ≤ 9223372036854775807
          ·rw [if_pos iZ] at H
           have Lg := eq_true iZ
           have Lh : decide (jN.size + aG.size ≤ 9223372036854775807) = true := decide_eq_true iZ
           try have auc : (9223372036854775807 < jN.size + aG.size) = False := eq_false (Nat.not_lt.2 iZ)
           simp only [Option.some.injEq, Prod.mk.injEq] at H
           obtain ⟨rfl, rfl⟩ := H
           have := cz bR.out 0 rfl
           have := cz bR.out 1 rfl
           have := cz bR.out 2 rfl
           have := cz bR.out 3 rfl
           have := cz bR.out 4 rfl
           have := fz bR.out 0
           have := fz bR.out 1
           have := fz bR.out 2
           have := fz bR.out 3
           have := fz bR.out 4
           go_wp2
           go_ret2
           exact ⟨by first | rfl | (simp [aQ, aR] <;> rfl) | (simp [*, aQ, aR] <;> rfl), by repeat (first | (with_reducible first | exact HB.out | apply bA | apply pN | apply au | refine bS ?_ kZ.out) | exact HB.out)⟩
          ·rw [if_neg iZ] at H
           exact absurd H (by simp)
         ·rw [if_neg c24] at H
          have y7 : (ah == 5) = false := beq_eq_false_iff_ne.mpr c24
          have DK : (ah != 5) = true := bne_iff_ne.mpr c24
          replace H := Option.bind_eq_some_iff.mp H
          obtain ⟨⟨t158, t159⟩, TJ, H⟩ := H
          replace H : ((yU.f t158 t159).bind fun EJ => (if jN.size + EJ.1.size ≤ 9223372036854775807 then (some (jN ++ EJ.1, 0)) else (none))) = some (r1, r2) := H
          have A27 := am TJ
          clear TJ
          replace H := Option.bind_eq_some_iff.mp H
          obtain ⟨⟨t160, t161⟩, ED, H⟩ := H
          replace H : (if jN.size + t160.size ≤ 9223372036854775807 then (some (jN ++ t160, 0)) else (none)) = some (r1, r2) := H
          have EF := am ED
          clear ED
          by_cases ow : jN.size + t160.size ≤ 9223372036854775807
          ·rw [if_pos ow] at H
           have Tt := eq_true ow
           have Tv : decide (jN.size + t160.size ≤ 9223372036854775807) = true := decide_eq_true ow
           try have aud : (9223372036854775807 < jN.size + t160.size) = False := eq_false (Nat.not_lt.2 ow)
           simp only [Option.some.injEq, Prod.mk.injEq] at H
           obtain ⟨rfl, rfl⟩ := H
           have := cz bR.out 0 rfl
           have := cz bR.out 1 rfl
           have := cz bR.out 2 rfl
           have := cz bR.out 3 rfl
           have := cz bR.out 4 rfl
           have := fz bR.out 0
           have := fz bR.out 1
           have := fz bR.out 2
           have := fz bR.out 3
           have := fz bR.out 4
           go_wp2_with (first | ((with_reducible refine bY (f := 65) rfl ?_); refine b_ (some 43) rfl rfl Tryz.func65 (by kernel_rfl) rfl #[.agg #[.int .i64 ah, .int .i64 av, .string aG, .bool aJ, .bool aI]] rfl (by (try simp only [List.map_toArray, List.map_cons, List.map_nil]); first | done | rfl | (simp only [List.length_drop, List.length_take]; rfl)) ?_; (with_reducible refine (kH.calls ah av aG aJ aI t158 t159 _ A27.out).mono ?_); rintro e w31 ⟨rfl, hb⟩; refine ⟨_, rfl, ?_⟩; have ay := am (kB (g := rH) (o := .cells #[.int .i64 ah, .int .i64 av, .string aG, .bool aJ, .bool aI] 29 (0, 0)) (by (with_reducible repeat (first | apply kN | apply kD | apply kA)); exact bR.out) hb); have aA := am (bP (by repeat (first | (with_reducible first | exact HB.out | apply bA | apply pN | apply au | refine bS ?_ kZ.out) | exact HB.out)) hb); clear bR; clear HB; have bR := ay; have HB := aA; clear ay aA; (try clear hb); (try clear hb2); (try clear hk); (try clear hi)) | ((with_reducible refine bY (f := 68) rfl ?_); refine b_ (some 44) rfl rfl Tryz.func68 (by kernel_rfl) rfl #[.agg #[.bool t158, .int .i64 t159]] rfl (by (try simp only [List.map_toArray, List.map_cons, List.map_nil]); first | done | rfl | (simp only [List.length_drop, List.length_take]; rfl)) ?_; (with_reducible refine (yU.calls t158 t159 t160 t161 _ ?dB EF.out).mono ?_); (case dB => exact HT.out.below (by repeat (first | (with_reducible first | exact HB.out | apply bA | apply pN | apply au | refine bS ?_ kZ.out) | exact HB.out))); rintro e w32 ⟨rfl, hb⟩; refine ⟨_, rfl, ?_⟩; have ay := am (kB (g := rH) (o := .cells #[.int .i64 ah, .int .i64 av, .string aG, .bool aJ, .bool aI] 29 (0, 0)) (by (with_reducible repeat (first | apply kN | apply kD | apply kA)); exact bR.out) hb); have aA := am (bP (by repeat (first | (with_reducible first | exact HB.out | apply bA | apply pN | apply au | refine bS ?_ kZ.out) | exact HB.out)) hb); clear bR; clear HB; have bR := ay; have HB := aA; clear ay aA; (try clear hb); (try clear hb2); (try clear hk); (try clear hi)))
           go_ret2
           exact ⟨by first | rfl | (simp [aQ, aR] <;> rfl) | (simp [*, aQ, aR] <;> rfl), by repeat (first | (with_reducible first | exact HB.out | apply bA | apply pN | apply au | refine bS ?_ kZ.out) | exact HB.out)⟩
          ·rw [if_neg ow] at H
           exact absurd H (by simp)
 ·rw [if_neg c3] at H
  have gH : (t157 == 0) = false := beq_eq_false_iff_ne.mpr c3
  have uN : (t157 != 0) = true := bne_iff_ne.mpr c3
  simp only [Option.some.injEq, Prod.mk.injEq] at H
  obtain ⟨rfl, rfl⟩ := H
  go_enter Tryz.func36, Tryz.ntmps36
  go_wp2_with (first | ((with_reducible refine cK (N := 1) rfl ?_); refine cO ?hg (N := 1) ?hd (cs := #[.int .i64 ah, .int .i64 av, .string aG, .bool aJ, .bool aI]) (t := 29) ?hr ?_; (case hd => rfl); (case hg => rfl); (case hr => first | (go_simp; done) | (go_simp; rfl)); intro rH hg w33 aV hb; have ay := am (bP (by repeat (first | (with_reducible first | exact HB.out | apply bA | apply pN | apply au) | exact HB.out)) hb); have aA := am (aV); have aK := am ((by rw [hg]; exact (bZ (by repeat (first | (with_reducible first | exact HB.out | apply bA | apply pN | apply au) | exact HB.out))) : w.heap.size ≤ rH)); have aU := am ((by rw [hg]; exact (bZ (by repeat (first | (with_reducible first | exact HB.out | apply bA | apply pN | apply au) | exact HB.out))) : w.heap.size ≤ rH)); clear HB; have HB := ay; have bR := aA; have aeN := aK; have kZ := aU; clear ay aA aK aU; clear hb aV hg; have := cz bR.out 0 rfl; have := cz bR.out 1 rfl; have := cz bR.out 2 rfl; have := cz bR.out 3 rfl; have := cz bR.out 4 rfl; have := fz bR.out 0; have := fz bR.out 1; have := fz bR.out 2; have := fz bR.out 3; have := fz bR.out 4) | ((with_reducible refine bY (f := 14) rfl ?_); refine b_ (some 9) rfl rfl Tryz.func14 (by kernel_rfl) rfl #[.agg #[.int .i64 ah, .int .i64 av, .string aG, .bool aJ, .bool aI]] rfl (by (try simp only [List.map_toArray, List.map_cons, List.map_nil]); first | done | rfl | (simp only [List.length_drop, List.length_take]; rfl)) ?_; (with_reducible refine (jE.calls k ah av aG aJ aI t157 _ ?dB A2.out).mono ?_); (case dB => exact HT.out.below (by repeat (first | (with_reducible first | exact HB.out | apply bA | apply pN | apply au | refine bS ?_ kZ.out) | exact HB.out))); rintro e Tx ⟨rfl, hb⟩; refine ⟨_, rfl, ?_⟩; have ay := am (kB (g := rH) (o := .cells #[.int .i64 ah, .int .i64 av, .string aG, .bool aJ, .bool aI] 29 (0, 0)) (by (with_reducible repeat (first | apply kN | apply kD | apply kA)); exact bR.out) hb); have aA := am (bP (by repeat (first | (with_reducible first | exact HB.out | apply bA | apply pN | apply au | refine bS ?_ kZ.out) | exact HB.out)) hb); clear bR; clear HB; have bR := ay; have HB := aA; clear ay aA; (try clear hb); (try clear hb2); (try clear hk); (try clear hi)))
  go_ret2
  exact ⟨by first | rfl | (simp [aQ, aR] <;> rfl) | (simp [*, aQ, aR] <;> rfl), by repeat (first | (with_reducible first | exact HB.out | apply bA | apply pN | apply au | refine bS ?_ kZ.out) | exact HB.out)⟩
noncomputable def EK.f (a0 : Bool) : Option (ByteArray) := if a0 = true then (some (⟨#[116, 114, 117, 101]⟩ : ByteArray)) else (some (⟨#[102, 97, 108, 115, 101]⟩ : ByteArray))
theorem EK.calls (a0 : Bool) (r : ByteArray) (w : World) (h : EK.f a0 = some r) :
 Calls Tryz.prog 69 #[.bool a0] w fun e w' => e = .returned (.string r) ∧ bB w w' := by
 have H : (if a0 = true then (some (⟨#[116, 114, 117, 101]⟩ : ByteArray)) else (some (⟨#[102, 97, 108, 115, 101]⟩ : ByteArray))) = some r := h
 clear h
 by_cases c2 : a0 = true
 ·subst c2
  have H1 : (some (⟨#[116, 114, 117, 101]⟩ : ByteArray)) = some r := by rw [if_pos rfl] at H; exact H
  clear H
  have H := H1
  clear H1
  obtain rfl := Option.some.inj H
  go_enter Tryz.func69, Tryz.ntmps69
  go_wp2
  go_ret
  exact ⟨by first | rfl | (simp; done) | (simp [*]; done), by repeat (first | exact bB.refl _ | apply bB.step)⟩
 ·replace c2 := Bool.eq_false_iff.mpr c2
  subst c2
  have H1 : (some (⟨#[102, 97, 108, 115, 101]⟩ : ByteArray)) = some r := by rw [if_neg (show ¬ (false = true) by decide)] at H; exact H
  clear H
  have H := H1
  clear H1
  obtain rfl := Option.some.inj H
  go_enter Tryz.func69, Tryz.ntmps69
  go_wp2
  go_ret
  exact ⟨by first | rfl | (simp; done) | (simp [*]; done), by repeat (first | exact bB.refl _ | apply bB.step)⟩
noncomputable def Cu.f (a0 : Bool) : Option (ByteArray) := (EK.f a0).bind fun t162 => (some t162)
theorem Cu.calls (a0 : Bool) (r : ByteArray) (w : World) (h : Cu.f a0 = some r) :
 Calls Tryz.prog 37 #[.bool a0] w fun e w' => e = .returned (.string r) ∧ bB w w' := by
 have H : ((EK.f a0).bind fun t162 => (some t162)) = some r := h
 clear h
 replace H := Option.bind_eq_some_iff.mp H
 obtain ⟨t162, f_, H⟩ := H
 replace H : (some t162) = some r := H
 have A2 := am f_
 clear f_
 obtain rfl := Option.some.inj H
 go_enter Tryz.func37, Tryz.ntmps37
 go_wp2_with (first | ((with_reducible refine bY (f := 69) rfl ?_); refine b_ (some 4) rfl rfl Tryz.func69 (by kernel_rfl) rfl #[.bool a0] rfl (by (try simp only [List.map_toArray, List.map_cons, List.map_nil]); first | done | rfl | (simp only [List.length_drop, List.length_take]; rfl)) ?_; (with_reducible refine (EK.calls a0 t162 _ A2.out).mono ?_); rintro e w' ⟨rfl, ⟨nd, rfl⟩⟩; refine ⟨_, rfl, ?_⟩))
 go_ret
 exact ⟨by first | rfl | (simp; done) | (simp [*]; done), by repeat (first | exact bB.refl _ | apply bB.step)⟩
end Go.Proofs.YtgliaoanlhbepaaGreatDoor.Q
