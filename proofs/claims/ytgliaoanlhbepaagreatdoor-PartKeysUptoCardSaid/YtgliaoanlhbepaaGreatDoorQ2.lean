/- Walks, printed by a program of this session: what each function of the law computes. -/
import Derived.Test.YtgliaoanlhbepaaGreatDoorQ0
namespace Go.Proofs.YtgliaoanlhbepaaGreatDoor.Q
open Go.RowKit Go.Proofs.bT.eG Go.Proofs.bT.iM Go.Proofs.bT.jd
open Go.Proofs.bT.eG renaming lF → pN, lZ → au, l6 → bA, mZ → bS, m_ → bZ, ng → bP, ni → kN, nk → kD, nu → kA, ny → fz, nA → kB, lH → kL
attribute [local go_sem] nC nD nE nG nH nI nJ nK
set_option maxHeartbeats 8000000
set_option maxRecDepth 100000
set_option linter.unusedVariables false
set_option linter.unusedSimpArgs false
noncomputable def iX.f (a0 : Int) : Option (Bool) := if a0 = 2 then (some true) else (some (a0 == 3))
theorem iX.calls (a0 : Int) (r : Bool) (w : World) (h : iX.f a0 = some r) :
 Calls Tryz.prog 63 #[.int .i64 a0] w fun e w' => e = .returned (.bool r) ∧ bB w w' := by
 have H : (if a0 = 2 then (some true) else (some (a0 == 3))) = some r := h
 clear h
 by_cases c2 : a0 = 2
 ·rw [if_pos c2] at H
  have iN : (a0 == 2) = true := beq_iff_eq.mpr c2
  have nM : (a0 != 2) = false := bne_eq_false_iff_eq.mpr c2
  clear c2
  obtain rfl := Option.some.inj H
  go_enter Tryz.func63, Tryz.ntmps63
  go_wp2
  go_ret
  exact ⟨by first | rfl | (simp; done) | (simp [*]; done), by repeat (first | exact bB.refl _ | apply bB.step)⟩
 ·rw [if_neg c2] at H
  have iN : (a0 == 2) = false := beq_eq_false_iff_ne.mpr c2
  have nM : (a0 != 2) = true := bne_iff_ne.mpr c2
  obtain rfl := Option.some.inj H
  go_enter Tryz.func63, Tryz.ntmps63
  go_wp2
  go_ret
  exact ⟨by first | rfl | (simp; done) | (simp [*]; done), by repeat (first | exact bB.refl _ | apply bB.step)⟩
noncomputable def gK.f (ah : Bool) (av : Int) : Option (Int) := if av < 1 then (some 1) else (if av > 31 then (some 1) else (some 0))
theorem gK.calls (ah : Bool) (av : Int) (r : Int) (w : World) (h : gK.f ah av = some r) :
 Calls Tryz.prog 64 #[.agg #[.bool ah, .int .i64 av]] w fun e w' => e = .returned (.int .i64 r) ∧ Below w.heap.size w w' := by
 have mg := Tryz.underlying48
 have HB := am (Below.refl w.heap.size w)
 have H : (if av < 1 then (some 1) else (if av > 31 then (some 1) else (some 0))) = some r := h
 clear h
 by_cases c2 : av < 1
 ·rw [if_pos c2] at H
  have iN : decide (av < 1) = true := decide_eq_true c2
  clear c2
  obtain rfl := Option.some.inj H
  go_enter Tryz.func64, Tryz.ntmps64
  go_wp2_with (first | ((with_reducible refine cK (N := 1) rfl ?_); refine cO ?hg (N := 1) ?hd (cs := #[.bool ah, .int .i64 av]) (t := 48) ?hr ?_; (case hd => rfl); (case hg => rfl); (case hr => first | (go_simp; done) | (go_simp; rfl)); intro xC hg w3 aV hb; have ay := am (bP (by repeat (first | (with_reducible first | exact HB.out | apply bA | apply pN | apply au) | exact HB.out)) hb); have aA := am (aV); have aK := am ((by rw [hg]; exact (bZ (by repeat (first | (with_reducible first | exact HB.out | apply bA | apply pN | apply au) | exact HB.out))) : w.heap.size ≤ xC)); have aU := am ((by rw [hg]; exact (bZ (by repeat (first | (with_reducible first | exact HB.out | apply bA | apply pN | apply au) | exact HB.out))) : w.heap.size ≤ xC)); clear HB; have HB := ay; have nO := aA; have SH := aK; have Ep := aU; clear ay aA aK aU; clear hb aV hg; have := cz nO.out 0 rfl; have := cz nO.out 1 rfl; have := fz nO.out 0; have := fz nO.out 1))
  go_ret
  exact ⟨by first | rfl | (simp [aQ, aR] <;> rfl) | (simp [*, aQ, aR] <;> rfl), by repeat (first | (with_reducible first | exact HB.out | apply bA | apply pN | apply au | refine bS ?_ Ep.out) | exact HB.out)⟩
 ·rw [if_neg c2] at H
  have iN : decide (av < 1) = false := decide_eq_false c2
  clear c2
  by_cases c5 : av > 31
  ·rw [if_pos c5] at H
   have g_ : decide (31 < av) = true := decide_eq_true c5
   clear c5
   obtain rfl := Option.some.inj H
   go_enter Tryz.func64, Tryz.ntmps64
   go_wp2_with (first | ((with_reducible refine cK (N := 1) rfl ?_); refine cO ?hg (N := 1) ?hd (cs := #[.bool ah, .int .i64 av]) (t := 48) ?hr ?_; (case hd => rfl); (case hg => rfl); (case hr => first | (go_simp; done) | (go_simp; rfl)); intro xC hg w6 aV hb; have ay := am (bP (by repeat (first | (with_reducible first | exact HB.out | apply bA | apply pN | apply au) | exact HB.out)) hb); have aA := am (aV); have aK := am ((by rw [hg]; exact (bZ (by repeat (first | (with_reducible first | exact HB.out | apply bA | apply pN | apply au) | exact HB.out))) : w.heap.size ≤ xC)); have aU := am ((by rw [hg]; exact (bZ (by repeat (first | (with_reducible first | exact HB.out | apply bA | apply pN | apply au) | exact HB.out))) : w.heap.size ≤ xC)); clear HB; have HB := ay; have nO := aA; have SH := aK; have Ep := aU; clear ay aA aK aU; clear hb aV hg; have := cz nO.out 0 rfl; have := cz nO.out 1 rfl; have := fz nO.out 0; have := fz nO.out 1))
   go_ret
   exact ⟨by first | rfl | (simp [aQ, aR] <;> rfl) | (simp [*, aQ, aR] <;> rfl), by repeat (first | (with_reducible first | exact HB.out | apply bA | apply pN | apply au | refine bS ?_ Ep.out) | exact HB.out)⟩
  ·rw [if_neg c5] at H
   have g_ : decide (31 < av) = false := decide_eq_false c5
   clear c5
   obtain rfl := Option.some.inj H
   go_enter Tryz.func64, Tryz.ntmps64
   go_wp2_with (first | ((with_reducible refine cK (N := 1) rfl ?_); refine cO ?hg (N := 1) ?hd (cs := #[.bool ah, .int .i64 av]) (t := 48) ?hr ?_; (case hd => rfl); (case hg => rfl); (case hr => first | (go_simp; done) | (go_simp; rfl)); intro xC hg w8 aV hb; have ay := am (bP (by repeat (first | (with_reducible first | exact HB.out | apply bA | apply pN | apply au) | exact HB.out)) hb); have aA := am (aV); have aK := am ((by rw [hg]; exact (bZ (by repeat (first | (with_reducible first | exact HB.out | apply bA | apply pN | apply au) | exact HB.out))) : w.heap.size ≤ xC)); have aU := am ((by rw [hg]; exact (bZ (by repeat (first | (with_reducible first | exact HB.out | apply bA | apply pN | apply au) | exact HB.out))) : w.heap.size ≤ xC)); clear HB; have HB := ay; have nO := aA; have SH := aK; have Ep := aU; clear ay aA aK aU; clear hb aV hg; have := cz nO.out 0 rfl; have := cz nO.out 1 rfl; have := fz nO.out 0; have := fz nO.out 1))
   go_ret
   exact ⟨by first | rfl | (simp [aQ, aR] <;> rfl) | (simp [*, aQ, aR] <;> rfl), by repeat (first | (with_reducible first | exact HB.out | apply bA | apply pN | apply au | refine bS ?_ Ep.out) | exact HB.out)⟩
noncomputable def kH.f (ah : Int) (av : Int) (aG : ByteArray) (aJ : Bool) (aI : Bool) : Option (Bool × Int) := some ((ah == 3), av)
theorem kH.calls (ah : Int) (av : Int) (aG : ByteArray) (aJ : Bool) (aI : Bool) (r1 : Bool) (r2 : Int) (w : World) (h : kH.f ah av aG aJ aI = some (r1, r2)) :
 Calls Tryz.prog 65 #[.agg #[.int .i64 ah, .int .i64 av, .string aG, .bool aJ, .bool aI]] w fun e w' => e = .returned (.agg #[.bool r1, .int .i64 r2]) ∧ Below w.heap.size w w' := by
 have lI := Tryz.underlying29
 have mg := Tryz.underlying48
 have HB := am (Below.refl w.heap.size w)
 have H : (some ((ah == 3), av)) = some (r1, r2) := h
 clear h
 simp only [Option.some.injEq, Prod.mk.injEq] at H
 obtain ⟨rfl, rfl⟩ := H
 go_enter Tryz.func65, Tryz.ntmps65
 go_wp2_with (first | ((with_reducible refine cK (N := 1) rfl ?_); refine cO ?hg (N := 1) ?hd (cs := #[.int .i64 ah, .int .i64 av, .string aG, .bool aJ, .bool aI]) (t := 29) ?hr ?_; (case hd => rfl); (case hg => rfl); (case hr => first | (go_simp; done) | (go_simp; rfl)); intro zP hg w2 aV hb; have ay := am (bP (by repeat (first | (with_reducible first | exact HB.out | apply bA | apply pN | apply au) | exact HB.out)) hb); have aA := am (aV); have aK := am ((by rw [hg]; exact (bZ (by repeat (first | (with_reducible first | exact HB.out | apply bA | apply pN | apply au) | exact HB.out))) : w.heap.size ≤ zP)); have aU := am ((by rw [hg]; exact (bZ (by repeat (first | (with_reducible first | exact HB.out | apply bA | apply pN | apply au) | exact HB.out))) : w.heap.size ≤ zP)); clear HB; have HB := ay; have mR := aA; have aq0 := aK; have Ho := aU; clear ay aA aK aU; clear hb aV hg) | ((with_reducible refine cK (N := 2) rfl ?_); refine cO ?hg (N := 2) ?hd (cs := #[.bool false, .int .i64 0]) (t := 48) ?hr ?_; (case hd => rfl); (case hg => rfl); (case hr => first | (go_simp; done) | (go_simp; rfl)); intro Er hg w3 aV hb; have ay := am (kB (g := zP) (o := .cells #[.int .i64 ah, .int .i64 av, .string aG, .bool aJ, .bool aI] 29 (0, 0)) (by (with_reducible repeat (first | apply kN | apply kD | apply kA)); exact mR.out) hb); have aA := am (bP (by repeat (first | (with_reducible first | exact HB.out | apply bA | apply pN | apply au | refine bS ?_ Ho.out) | exact HB.out)) hb); have aK := am (aV); have aU := am ((by rw [hg]; exact (bZ (by repeat (first | (with_reducible first | exact HB.out | apply bA | apply pN | apply au | refine bS ?_ Ho.out) | exact HB.out))) : w.heap.size ≤ Er)); have dZ := am ((by rw [hg]; exact (bZ (by repeat (first | (with_reducible first | exact HB.out | apply bA | apply pN | apply au | refine bS ?_ Ho.out) | exact HB.out))) : w.heap.size ≤ Er)); have eH := am ((by rw [hg]; exact Nat.ne_of_lt (kL (g := zP) (o := .cells #[.int .i64 ah, .int .i64 av, .string aG, .bool aJ, .bool aI] 29 (0, 0)) (by (with_reducible repeat (first | apply kN | apply kD | apply kA)); exact mR.out)) : zP ≠ Er)); have eO := am ((by rw [hg]; exact Nat.ne_of_gt (kL (g := zP) (o := .cells #[.int .i64 ah, .int .i64 av, .string aG, .bool aJ, .bool aI] 29 (0, 0)) (by (with_reducible repeat (first | apply kN | apply kD | apply kA)); exact mR.out)) : Er ≠ zP)); clear mR; clear HB; have mR := ay; have HB := aA; have Es := aK; have aq1 := aU; have adD := dZ; have adE := eH; have adF := eO; clear ay aA aK aU dZ eH eO; clear hb aV hg; have Z5 := adE.out; have Z6 := adF.out; have := cz mR.out 0 rfl; have := cz mR.out 1 rfl; have := cz mR.out 2 rfl; have := cz mR.out 3 rfl; have := cz mR.out 4 rfl; have := fz mR.out 0; have := fz mR.out 1; have := fz mR.out 2; have := fz mR.out 3; have := fz mR.out 4; have := cz Es.out 0 rfl; have := cz Es.out 1 rfl; have := fz Es.out 0; have := fz Es.out 1))
 refine bodyPost_ret (results_cell_row rfl _ _ Er 48 #[.bool (ah == 3), .int .i64 av] (0, 0) _ rfl (by (with_reducible repeat (first | apply kN | apply kD | apply kA)); refine bX (cs := #[.bool (ah == 3), .int .i64 0]) ?_ 1 _ rfl; (with_reducible repeat (first | apply kN | apply kD | apply kA)); refine bX (cs := #[.bool false, .int .i64 0]) ?_ 0 _ rfl; (with_reducible repeat (first | apply kN | apply kD | apply kA)); exact Es.out) Tryz.underlying48 rfl (by kernel_rfl)) rfl ?_
 exact ⟨by first | rfl | (simp [aQ, aR] <;> rfl) | (simp [*, aQ, aR] <;> rfl), by repeat (first | (with_reducible first | exact HB.out | apply bA | apply pN | apply au | refine bS ?_ Ho.out | refine bS ?_ adD.out) | exact HB.out)⟩
noncomputable def mY.f (k : Nat) (a0 : ByteArray) : Option Bool := Go.Proofs.fM.yO k a0
theorem mY.mono : ∀ a0 k, aN (mY.f k a0) (mY.f (k + 1) a0) := Go.Proofs.fM.YF
theorem mY.calls (k : Nat) (a0 : ByteArray) (r : Bool) (w : World) (h : mY.f k a0 = some r) :
 Calls Tryz.prog 132 #[.string a0] w fun e w' => e = .returned (.bool r) ∧ Below w.heap.size w w' := Go.Proofs.fM.Yw k a0 r w h
noncomputable def iG.l0 : Nat → List ByteArray → ByteArray → Int → Int → Option (Int)
 | 0, _, _, _, _ => none
 | k + 1, x0, x1, x7, x8 => if x8 < x7 then (if 0 ≤ x8 then (if x8 < (x0.length : Int) then (if x1.toList = (fG ByteArray.empty x0 x8).toList then (some x8) else (iG.l0 k x0 x1 x7 (wrap64 (x8 + 1)))) else (none)) else (none)) else (some (-1))
noncomputable def iG.f (k : Nat) (l0 : List ByteArray) (a1 : ByteArray) : Option (Int) := iG.l0 k l0 a1 (l0.length : Int) 0
theorem iG.gy : ∀ k, (∀ y0 y1 y2 y3, aN (iG.l0 k y0 y1 y2 y3) (iG.l0 (k + 1) y0 y1 y2 y3))
 | 0 => fun _ _ _ _ r h => by simp [iG.l0] at h
 | k + 1 => by
  have cZ := iG.gy k
  ·intro y0 y1 y2 y3
   unfold iG.l0
   repeat' first
   | (with_reducible exact cZ _ _ _ _)
   | (with_reducible exact aN.refl _)
   | (with_reducible exact aN.none _)
   | (with_reducible refine aN.ite ?_ ?_)
   | (with_reducible refine aN.bind ?_ (fun _ => ?_))
   | exact cZ _ _ _ _
   | exact aN.none _
   | refine aN.ite ?_ ?_
   | refine aN.bind ?_ (fun _ => ?_)
theorem iG.mono : ∀ a0 a1 k, aN (iG.f k a0 a1) (iG.f (k + 1) a0 a1) := by
 intro a0 a1 k
 have cZ := iG.gy k
 unfold iG.f
 repeat' first
  | (with_reducible exact cZ _ _ _ _)
  | (with_reducible exact aN.refl _)
  | (with_reducible exact aN.none _)
  | (with_reducible refine aN.ite ?_ ?_)
  | (with_reducible refine aN.bind ?_ (fun _ => ?_))
  | exact cZ _ _ _ _
  | exact aN.none _
  | refine aN.ite ?_ ?_
  | refine aN.bind ?_ (fun _ => ?_)
theorem iG.calls (k : Nat) (A0 : Option Addr) (c0 : Nat) (l0 : List ByteArray) (a1 : ByteArray) (r : Int) (w : World) (hr0 : Kd.C Kd.string w A0 l0.length l0) (hc0 : l0.length ≤ c0) (h : iG.f k l0 a1 = some r) :
 Calls Tryz.prog 259 #[.slice A0 l0.length c0, .string a1] w fun e w' => e = .returned (.int .i64 r) ∧ bB w w' := by
 have Hq := am hr0
 have SI := am hc0
 clear hr0 hc0
 have H : (iG.l0 k l0 a1 (l0.length : Int) 0) = some r := h
 clear h
 have H' := am H
 clear H
 go_enter Tryz.func259, Tryz.ntmps259
 go_wp2
 go_loopg [8] k (fun kq v8 w' => ∃ (jK : Int), v8 = .int .i64 jK ∧ bI (iG.l0 kq l0 a1 (l0.length : Int) jK = some r) ∧ bI (kq ≤ k) ∧ bB w w')
 case atStart => exact ⟨(0), (by first | rfl | (simp; done) | (simp [*]; done)), H', ⟨Nat.le_refl _⟩, by repeat (first | exact bB.refl _ | apply bB.step)⟩
 case round =>
  clear H'
  try clear c2
  try clear p2
  obtain ⟨jK, rfl, HA, eu, ⟨m1, rfl⟩⟩ := hrel
  cases gk with
  | zero => exact absurd HA.out (by simp [iG.l0])
  | succ k1 =>
   have H := HA.out
   clear HA
   simp only [iG.l0] at H
   by_cases c3 : jK < (l0.length : Int)
   ·rw [if_pos c3] at H
    have gH : decide (jK < (l0.length : Int)) = true := decide_eq_true c3
    clear c3
    by_cases c4 : 0 ≤ jK
    ·rw [if_pos c4] at H
     have fJ : decide (0 ≤ jK) = true := decide_eq_true c4
     clear c4
     by_cases c5 : jK < (l0.length : Int)
     ·rw [if_pos c5] at H
      have g_ : decide (jK < (l0.length : Int)) = true := decide_eq_true c5
      clear c5
      by_cases c6 : a1.toList = (fG ByteArray.empty l0 jK).toList
      ·rw [if_pos c6] at H
       have gT : (a1.toList == (fG ByteArray.empty l0 jK).toList) = true := beq_iff_eq.mpr c6
       have mP : (a1.toList != (fG ByteArray.empty l0 jK).toList) = false := bne_eq_false_iff_eq.mpr c6
       clear c6
       obtain rfl := Option.some.inj H
       have zQ : 0 ≤ (jK : Int) := of_decide_eq_true (by first | (with_reducible assumption) | assumption)
       have zR : jK < (l0.length : Int) := of_decide_eq_true (by first | (with_reducible assumption) | assumption)
       obtain ⟨adG, MO, adH⟩ := Kd.vK Hq.out jK zQ zR
       cases MO
       replace zQ := eq_true zQ
       replace zR := eq_true zR
       go_wp2
       go_ret
       exact ⟨by first | rfl | (simp; done) | (simp [*]; done), by repeat (first | exact bB.refl _ | apply bB.step)⟩
      ·rw [if_neg c6] at H
       have gT : (a1.toList == (fG ByteArray.empty l0 jK).toList) = false := beq_eq_false_iff_ne.mpr c6
       have mP : (a1.toList != (fG ByteArray.empty l0 jK).toList) = true := bne_iff_ne.mpr c6
       have H' := am H
       clear H
       have zQ : 0 ≤ (jK : Int) := of_decide_eq_true (by first | (with_reducible assumption) | assumption)
       have zR : jK < (l0.length : Int) := of_decide_eq_true (by first | (with_reducible assumption) | assumption)
       obtain ⟨adG, MO, adH⟩ := Kd.vK Hq.out jK zQ zR
       cases MO
       replace zQ := eq_true zQ
       replace zR := eq_true zR
       go_wp2
       go_roundg k1
       case measure => have := eu.out; omega
       case rel => exact ⟨(wrap64 (jK + 1)), (by first | rfl | (simp; done) | (simp [*]; done)), H', ⟨by have := eu.out; omega⟩, by repeat (first | exact bB.refl _ | apply bB.step)⟩
     ·rw [if_neg c5] at H
      exact absurd H (by simp)
    ·rw [if_neg c4] at H
     exact absurd H (by simp)
   ·rw [if_neg c3] at H
    have gH : decide (jK < (l0.length : Int)) = false := decide_eq_false c3
    clear c3
    obtain rfl := Option.some.inj H
    go_wp2
    go_ret
    exact ⟨by first | rfl | (simp; done) | (simp [*]; done), by repeat (first | exact bB.refl _ | apply bB.step)⟩
noncomputable def pW.f (k : Nat) (l0 : List ByteArray) (a1 : ByteArray) : Option (Bool) := (iG.f k l0 a1).bind fun t105 => (some (decide (t105 ≥ 0)))
theorem pW.mono : ∀ a0 a1 k, aN (pW.f k a0 a1) (pW.f (k + 1) a0 a1) := by
 intro a0 a1 k
 unfold pW.f
 repeat' first
  | (with_reducible exact iG.mono _ _ _)
  | (with_reducible exact aN.refl _)
  | (with_reducible exact aN.none _)
  | (with_reducible refine aN.ite ?_ ?_)
  | (with_reducible refine aN.bind ?_ (fun _ => ?_))
  | exact iG.mono _ _ _
  | exact aN.none _
  | refine aN.ite ?_ ?_
  | refine aN.bind ?_ (fun _ => ?_)
theorem pW.calls (k : Nat) (A0 : Option Addr) (c0 : Nat) (l0 : List ByteArray) (a1 : ByteArray) (r : Bool) (w : World) (hr0 : Kd.C Kd.string w A0 l0.length l0) (hc0 : l0.length ≤ c0) (h : pW.f k l0 a1 = some r) :
 Calls Tryz.prog 186 #[.slice A0 l0.length c0, .string a1] w fun e w' => e = .returned (.bool r) ∧ bB w w' := by
 have Hq := am hr0
 have SI := am hc0
 clear hr0 hc0
 have H : ((iG.f k l0 a1).bind fun t105 => (some (decide (t105 ≥ 0)))) = some r := h
 clear h
 replace H := Option.bind_eq_some_iff.mp H
 obtain ⟨t105, fH, H⟩ := H
 replace H : (some (decide (t105 ≥ 0))) = some r := H
 have A3 := am fH
 clear fH
 obtain rfl := Option.some.inj H
 go_enter Tryz.func186, Tryz.ntmps186
 go_wp2_with (first | ((with_reducible refine bY (f := 259) rfl ?_); refine b_ (some 7) rfl rfl Tryz.func259 (by kernel_rfl) rfl #[.slice A0 l0.length c0, .string a1] rfl (by (try simp only [List.map_toArray, List.map_cons, List.map_nil]); first | done | rfl | (simp only [List.length_drop, List.length_take]; rfl)) ?_; (with_reducible refine (iG.calls k _ _ l0 a1 t105 _ ?dB ?jV A3.out).mono ?_); (case dB => repeat (first | exact Hq.out | (with_reducible refine Kd.vH ?_ _) | (with_reducible refine Kd.vI ?_ _) | (with_reducible refine Kd.vJ ?_))); (case jV => exact SI.out); rintro e w' ⟨rfl, ⟨nd, rfl⟩⟩; refine ⟨_, rfl, ?_⟩))
 go_ret
 exact ⟨by first | rfl | (simp; done) | (simp [*]; done), by repeat (first | exact bB.refl _ | apply bB.step)⟩
noncomputable def mI.f (k : Nat) (a0 : ByteArray) : Option Bool := pW.f k Go.Proofs.fM.j3 a0
theorem mI.mono : ∀ a0 k, aN (mI.f k a0) (mI.f (k + 1) a0) := fun a0 k => pW.mono _ _ _
theorem mI.calls (k : Nat) (a0 : ByteArray) (r : Bool) (w : World) (HT0 : Go.Proofs.fM.jv w) (h : mI.f k a0 = some r) :
 Calls Tryz.prog 133 #[.string a0] w fun e w' => e = .returned (.bool r) ∧ Below w.heap.size w w' := by
 have HT := am HT0
 have HH : bI (pW.f k Go.Proofs.fM.j3 a0 = some r) := ⟨h⟩
 clear HT0 h
 go_enter Tryz.func133, Tryz.ntmps133
 go_wp2_with (first
  | (go_at_call 187; refine (Go.Proofs.fM.YA _ HT.out).mono ?_; rintro e w' ⟨rfl, rfl⟩)
  | (go_at_call 186; (with_reducible refine (pW.calls k _ _ Go.Proofs.fM.j3 a0 r _ ?dB ?jV HH.out).mono ?_); (case dB => exact Go.Proofs.fM.YC _); (case jV => exact Nat.le_refl _); rintro e w' ⟨rfl, ⟨nd, rfl⟩⟩))
 go_ret
 exact ⟨rfl, by repeat (first | exact Below.refl _ _ | apply bA | apply pN | apply au)⟩
noncomputable def pX.f (a0 : Int) : Option (Bool) := if a0 ≥ 2 then (some (decide (a0 ≤ 16))) else (some false)
theorem pX.calls (a0 : Int) (r : Bool) (w : World) (h : pX.f a0 = some r) :
 Calls Tryz.prog 262 #[.int .i64 a0] w fun e w' => e = .returned (.bool r) ∧ bB w w' := by
 have H : (if a0 ≥ 2 then (some (decide (a0 ≤ 16))) else (some false)) = some r := h
 clear h
 by_cases c2 : a0 ≥ 2
 ·rw [if_pos c2] at H
  have iN : decide (2 ≤ a0) = true := decide_eq_true c2
  clear c2
  obtain rfl := Option.some.inj H
  go_enter Tryz.func262, Tryz.ntmps262
  go_wp2
  go_ret
  exact ⟨by first | rfl | (simp; done) | (simp [*]; done), by repeat (first | exact bB.refl _ | apply bB.step)⟩
 ·rw [if_neg c2] at H
  have iN : decide (2 ≤ a0) = false := decide_eq_false c2
  clear c2
  obtain rfl := Option.some.inj H
  go_enter Tryz.func262, Tryz.ntmps262
  go_wp2
  go_ret
  exact ⟨by first | rfl | (simp; done) | (simp [*]; done), by repeat (first | exact bB.refl _ | apply bB.step)⟩
noncomputable def stringslite_HasPrefix.f (a0 : ByteArray) (a1 : ByteArray) : Option (Bool) := if (a0.size : Int) ≥ (a1.size : Int) then (if 0 ≤ (a1.size : Int) then (if (a1.size : Int) ≤ (a0.size : Int) then (some ((a0.extract 0 ((a1.size : Int) : Int).toNat).toList == a1.toList)) else (none)) else (none)) else (some false)
theorem stringslite_HasPrefix.calls (a0 : ByteArray) (a1 : ByteArray) (r : Bool) (w : World) (h : stringslite_HasPrefix.f a0 a1 = some r) :
 Calls Tryz.prog 363 #[.string a0, .string a1] w fun e w' => e = .returned (.bool r) ∧ bB w w' := by
 have H : (if (a0.size : Int) ≥ (a1.size : Int) then (if 0 ≤ (a1.size : Int) then (if (a1.size : Int) ≤ (a0.size : Int) then (some ((a0.extract 0 ((a1.size : Int) : Int).toNat).toList == a1.toList)) else (none)) else (none)) else (some false)) = some r := h
 clear h
 by_cases c3 : (a0.size : Int) ≥ (a1.size : Int)
 ·rw [if_pos c3] at H
  have gH : decide ((a1.size : Int) ≤ (a0.size : Int)) = true := decide_eq_true c3
  have uN : decide (a1.size ≤ a0.size) = true := decide_eq_true (Int.ofNat_le.mp c3)
  clear c3
  by_cases c4 : 0 ≤ (a1.size : Int)
  ·rw [if_pos c4] at H
   have fJ := eq_true c4
   have uM : decide (0 ≤ (a1.size : Int)) = true := decide_eq_true c4
   clear c4
   by_cases c5 : (a1.size : Int) ≤ (a0.size : Int)
   ·rw [if_pos c5] at H
    have g_ := eq_true c5
    have kW : decide ((a1.size : Int) ≤ (a0.size : Int)) = true := decide_eq_true c5
    clear c5
    obtain rfl := Option.some.inj H
    go_enter Tryz.func363, Tryz.ntmps363
    go_wp2
    go_ret
    exact ⟨by first | rfl | (simp; done) | (simp [*]; done), by repeat (first | exact bB.refl _ | apply bB.step)⟩
   ·rw [if_neg c5] at H
    exact absurd H (by simp)
  ·rw [if_neg c4] at H
   exact absurd H (by simp)
 ·rw [if_neg c3] at H
  have gH : decide ((a1.size : Int) ≤ (a0.size : Int)) = false := decide_eq_false c3
  have uN : decide (a1.size ≤ a0.size) = false := decide_eq_false (fun h => c3 (Int.ofNat_le.mpr h))
  clear c3
  obtain rfl := Option.some.inj H
  go_enter Tryz.func363, Tryz.ntmps363
  go_wp2
  go_ret
  exact ⟨by first | rfl | (simp; done) | (simp [*]; done), by repeat (first | exact bB.refl _ | apply bB.step)⟩
noncomputable def stringslite_TrimPrefix.f (a0 : ByteArray) (a1 : ByteArray) : Option (ByteArray) := (stringslite_HasPrefix.f a0 a1).bind fun t106 => (if t106 = true then (if 0 ≤ (a1.size : Int) then (if (a1.size : Int) ≤ (a0.size : Int) then (some (a0.extract ((a1.size : Int) : Int).toNat a0.size)) else (none)) else (none)) else (some a0))
theorem stringslite_TrimPrefix.calls (a0 : ByteArray) (a1 : ByteArray) (r : ByteArray) (w : World) (h : stringslite_TrimPrefix.f a0 a1 = some r) :
 Calls Tryz.prog 319 #[.string a0, .string a1] w fun e w' => e = .returned (.string r) ∧ bB w w' := by
 have H : ((stringslite_HasPrefix.f a0 a1).bind fun t106 => (if t106 = true then (if 0 ≤ (a1.size : Int) then (if (a1.size : Int) ≤ (a0.size : Int) then (some (a0.extract ((a1.size : Int) : Int).toNat a0.size)) else (none)) else (none)) else (some a0))) = some r := h
 clear h
 replace H := Option.bind_eq_some_iff.mp H
 obtain ⟨t106, fH, H⟩ := H
 replace H : (if t106 = true then (if 0 ≤ (a1.size : Int) then (if (a1.size : Int) ≤ (a0.size : Int) then (some (a0.extract ((a1.size : Int) : Int).toNat a0.size)) else (none)) else (none)) else (some a0)) = some r := H
 have A3 := am fH
 clear fH
 by_cases c4 : t106 = true
 ·subst c4
  have H1 : (if 0 ≤ (a1.size : Int) then (if (a1.size : Int) ≤ (a0.size : Int) then (some (a0.extract ((a1.size : Int) : Int).toNat a0.size)) else (none)) else (none)) = some r := by rw [if_pos rfl] at H; exact H
  clear H
  have H := H1
  clear H1
  by_cases c5 : 0 ≤ (a1.size : Int)
  ·rw [if_pos c5] at H
   have g_ := eq_true c5
   have kW : decide (0 ≤ (a1.size : Int)) = true := decide_eq_true c5
   clear c5
   by_cases c6 : (a1.size : Int) ≤ (a0.size : Int)
   ·rw [if_pos c6] at H
    have gT := eq_true c6
    have mP : decide ((a1.size : Int) ≤ (a0.size : Int)) = true := decide_eq_true c6
    clear c6
    obtain rfl := Option.some.inj H
    go_enter Tryz.func319, Tryz.ntmps319
    go_wp2_with (first | ((with_reducible refine bY (f := 363) rfl ?_); refine b_ (some 7) rfl rfl Tryz.func363 (by kernel_rfl) rfl #[.string a0, .string a1] rfl (by (try simp only [List.map_toArray, List.map_cons, List.map_nil]); first | done | rfl | (simp only [List.length_drop, List.length_take]; rfl)) ?_; (with_reducible refine (stringslite_HasPrefix.calls a0 a1 true _ A3.out).mono ?_); rintro e w' ⟨rfl, ⟨nd, rfl⟩⟩; refine ⟨_, rfl, ?_⟩))
    go_ret
    exact ⟨by first | rfl | (simp; done) | (simp [*]; done), by repeat (first | exact bB.refl _ | apply bB.step)⟩
   ·rw [if_neg c6] at H
    exact absurd H (by simp)
  ·rw [if_neg c5] at H
   exact absurd H (by simp)
 ·replace c4 := Bool.eq_false_iff.mpr c4
  subst c4
  have H1 : (some a0) = some r := by rw [if_neg (show ¬ (false = true) by decide)] at H; exact H
  clear H
  have H := H1
  clear H1
  obtain rfl := Option.some.inj H
  go_enter Tryz.func319, Tryz.ntmps319
  go_wp2_with (first | ((with_reducible refine bY (f := 363) rfl ?_); refine b_ (some 7) rfl rfl Tryz.func363 (by kernel_rfl) rfl #[.string a0, .string a1] rfl (by (try simp only [List.map_toArray, List.map_cons, List.map_nil]); first | done | rfl | (simp only [List.length_drop, List.length_take]; rfl)) ?_; (with_reducible refine (stringslite_HasPrefix.calls a0 a1 false _ A3.out).mono ?_); rintro e w' ⟨rfl, ⟨nd, rfl⟩⟩; refine ⟨_, rfl, ?_⟩))
  go_ret
  exact ⟨by first | rfl | (simp; done) | (simp [*]; done), by repeat (first | exact bB.refl _ | apply bB.step)⟩
noncomputable def strings_TrimPrefix.f (a0 : ByteArray) (a1 : ByteArray) : Option (ByteArray) := (stringslite_TrimPrefix.f a0 a1).bind fun t107 => (some t107)
theorem strings_TrimPrefix.calls (a0 : ByteArray) (a1 : ByteArray) (r : ByteArray) (w : World) (h : strings_TrimPrefix.f a0 a1 = some r) :
 Calls Tryz.prog 263 #[.string a0, .string a1] w fun e w' => e = .returned (.string r) ∧ bB w w' := by
 have H : ((stringslite_TrimPrefix.f a0 a1).bind fun t107 => (some t107)) = some r := h
 clear h
 replace H := Option.bind_eq_some_iff.mp H
 obtain ⟨t107, fH, H⟩ := H
 replace H : (some t107) = some r := H
 have A3 := am fH
 clear fH
 obtain rfl := Option.some.inj H
 go_enter Tryz.func263, Tryz.ntmps263
 go_wp2_with (first | ((with_reducible refine bY (f := 319) rfl ?_); refine b_ (some 7) rfl rfl Tryz.func319 (by kernel_rfl) rfl #[.string a0, .string a1] rfl (by (try simp only [List.map_toArray, List.map_cons, List.map_nil]); first | done | rfl | (simp only [List.length_drop, List.length_take]; rfl)) ?_; (with_reducible refine (stringslite_TrimPrefix.calls a0 a1 t107 _ A3.out).mono ?_); rintro e w' ⟨rfl, ⟨nd, rfl⟩⟩; refine ⟨_, rfl, ?_⟩))
 go_ret
 exact ⟨by first | rfl | (simp; done) | (simp [*]; done), by repeat (first | exact bB.refl _ | apply bB.step)⟩
noncomputable def strings_IndexByte.f (a0 : ByteArray) (a1 : Int) : Option Int := some (Go.Lib.indexByte a0.data.toList a1.toNat.toUInt8)
theorem strings_IndexByte.calls (a0 : ByteArray) (a1 : Int) (r : Int) (w : World) (h : strings_IndexByte.f a0 a1 = some r) :
 Calls Tryz.prog 264 #[.string a0, .int .u8 a1] w fun e w' => e = .returned (.int .i64 r) ∧ bB w w' := by
 obtain rfl := Option.some.inj h
 exact (Tryz.strings_IndexByte a0 a1 w).mono fun e w' ⟨h1, h2⟩ => ⟨h1, h2 ▸ bB.refl _⟩
mutual
noncomputable def dW.l0 : Nat → Int → Int → ByteArray → Option (ByteArray)
 | 0, _, _, _ => none
 | k + 1, x0, x1, x5 => if x0 ≥ x1 then (if x1 = 0 then (none) else (if 0 ≤ (Int.tmod x0 x1) then (if (Int.tmod x0 x1) < 16 then (if (Go.Utf8.encode (bt (⟨#[48, 49, 50, 51, 52, 53, 54, 55, 56, 57, 97, 98, 99, 100, 101, 102]⟩ : ByteArray) (Int.tmod x0 x1))).size + x5.size ≤ 9223372036854775807 then (dW.l0 k (wrap64 (Int.tdiv x0 x1)) x1 ((Go.Utf8.encode (bt (⟨#[48, 49, 50, 51, 52, 53, 54, 55, 56, 57, 97, 98, 99, 100, 101, 102]⟩ : ByteArray) (Int.tmod x0 x1))) ++ x5)) else (none)) else (none)) else (none))) else (if 0 ≤ x0 then (if x0 < 16 then (if (Go.Utf8.encode (bt (⟨#[48, 49, 50, 51, 52, 53, 54, 55, 56, 57, 97, 98, 99, 100, 101, 102]⟩ : ByteArray) x0)).size + x5.size ≤ 9223372036854775807 then (some ((Go.Utf8.encode (bt (⟨#[48, 49, 50, 51, 52, 53, 54, 55, 56, 57, 97, 98, 99, 100, 101, 102]⟩ : ByteArray) x0)) ++ x5)) else (none)) else (none)) else (none))
noncomputable def dW.f : Nat → Int → Int → Option (ByteArray)
 | 0, _, _ => none
 | k + 1, a0, a1 => if a0 < 0 then ((dW.f k (wrap64 (-a0)) a1).bind fun t108 => (if 1 + t108.size ≤ 9223372036854775807 then (some ((⟨#[45]⟩ : ByteArray) ++ t108)) else (none))) else (dW.l0 k a0 a1 (⟨#[]⟩ : ByteArray))
end
theorem dW.gy : ∀ k, (∀ y0 y1, aN (dW.f k y0 y1) (dW.f (k + 1) y0 y1)) ∧ (∀ y0 y1 y2, aN (dW.l0 k y0 y1 y2) (dW.l0 (k + 1) y0 y1 y2))
 | 0 => ⟨fun _ _ r h => by simp [dW.f] at h, fun _ _ _ r h => by simp [dW.l0] at h⟩
 | k + 1 => by
  obtain ⟨cZ, ih1⟩ := dW.gy k
  refine ⟨?_, ?_⟩
  ·intro y0 y1
   unfold dW.f
   repeat' first
   | (with_reducible exact cZ _ _)
   | (with_reducible exact ih1 _ _ _)
   | (with_reducible exact aN.refl _)
   | (with_reducible exact aN.none _)
   | (with_reducible refine aN.ite ?_ ?_)
   | (with_reducible refine aN.bind ?_ (fun _ => ?_))
   | exact cZ _ _
   | exact ih1 _ _ _
   | exact aN.none _
   | refine aN.ite ?_ ?_
   | refine aN.bind ?_ (fun _ => ?_)
  ·intro y0 y1 y2
   unfold dW.l0
   repeat' first
   | (with_reducible exact cZ _ _)
   | (with_reducible exact ih1 _ _ _)
   | (with_reducible exact aN.refl _)
   | (with_reducible exact aN.none _)
   | (with_reducible refine aN.ite ?_ ?_)
   | (with_reducible refine aN.bind ?_ (fun _ => ?_))
   | exact cZ _ _
   | exact ih1 _ _ _
   | exact aN.none _
   | refine aN.ite ?_ ?_
   | refine aN.bind ?_ (fun _ => ?_)
theorem dW.mono : ∀ a0 a1 k, aN (dW.f k a0 a1) (dW.f (k + 1) a0 a1) := by
 intro a0 a1 k
 obtain ⟨cZ, ih1⟩ := dW.gy k
 exact cZ a0 a1
theorem dW.calls (k : Nat) : ∀ (a0 : Int) (a1 : Int) (r : ByteArray) (w : World) (h : dW.f k a0 a1 = some r),
 Calls Tryz.prog 265 #[.int .i64 a0, .int .i64 a1] w fun e w' => e = .returned (.string r) ∧ bB w w' := by
 induction k using Nat.strongRecOn with
 | _ k ih =>
 intro a0 a1 r w h
 cases k with
 | zero => exact absurd h (by simp [dW.f])
 | succ k =>
 simp only [dW.f] at h
 have H : (if a0 < 0 then ((dW.f k (wrap64 (-a0)) a1).bind fun t108 => (if 1 + t108.size ≤ 9223372036854775807 then (some ((⟨#[45]⟩ : ByteArray) ++ t108)) else (none))) else (dW.l0 k a0 a1 (⟨#[]⟩ : ByteArray))) = some r := h
 clear h
 by_cases c3 : a0 < 0
 ·rw [if_pos c3] at H
  have gH : decide (a0 < 0) = true := decide_eq_true c3
  clear c3
  replace H := Option.bind_eq_some_iff.mp H
  obtain ⟨t108, kX, H⟩ := H
  replace H : (if 1 + t108.size ≤ 9223372036854775807 then (some ((⟨#[45]⟩ : ByteArray) ++ t108)) else (none)) = some r := H
  have A4 := am kX
  clear kX
  by_cases c5 : 1 + t108.size ≤ 9223372036854775807
  ·rw [if_pos c5] at H
   have g_ := eq_true c5
   have kW : decide (1 + t108.size ≤ 9223372036854775807) = true := decide_eq_true c5
   try have MP : (9223372036854775807 < 1 + t108.size) = False := eq_false (Nat.not_lt.2 c5)
   obtain rfl := Option.some.inj H
   go_enter Tryz.func265, Tryz.ntmps265
   go_wp2_with (first | ((with_reducible refine bY (f := 265) rfl ?_); refine b_ (some 11) rfl rfl Tryz.func265 (by kernel_rfl) rfl #[.int .i64 (wrap64 (-a0)), .int .i64 a1] rfl (by (try simp only [List.map_toArray, List.map_cons, List.map_nil]); first | done | rfl | (simp only [List.length_drop, List.length_take]; rfl)) ?_; (with_reducible refine (ih k (by omega) (wrap64 (-a0)) a1 t108 _ A4.out).mono ?_); rintro e w' ⟨rfl, ⟨nd, rfl⟩⟩; refine ⟨_, rfl, ?_⟩))
   go_ret
   exact ⟨by first | rfl | (simp; done) | (simp [*]; done), by repeat (first | exact bB.refl _ | apply bB.step)⟩
  ·rw [if_neg c5] at H
   exact absurd H (by simp)
 ·rw [if_neg c3] at H
  have gH : decide (a0 < 0) = false := decide_eq_false c3
  clear c3
  have H' := am H
  clear H
  go_enter Tryz.func265, Tryz.ntmps265
  go_wp2
  go_loopg [0, 5] k (fun kq v0 v5 w' => ∃ (fK : Int) (dw : ByteArray), v0 = .int .i64 fK ∧ v5 = .string dw ∧ bI (dW.l0 kq fK a1 dw = some r) ∧ bI (kq ≤ k) ∧ bB w w')
  case atStart => exact ⟨(a0), ((⟨#[]⟩ : ByteArray)), (by first | rfl | (simp; done) | (simp [*]; done)), (by first | rfl | (simp; done) | (simp [*]; done)), H', ⟨Nat.le_refl _⟩, by repeat (first | exact bB.refl _ | apply bB.step)⟩
  case round =>
   clear H'
   try clear c2
   try clear p2
   try clear c3
   try clear gH
   try clear c5
   try clear g_
   try clear kW
   try clear MP
   obtain ⟨fK, dw, rfl, rfl, HA, eu, ⟨m1, rfl⟩⟩ := hrel
   cases gk with
   | zero => exact absurd HA.out (by simp [dW.l0])
   | succ k1 =>
    have H := HA.out
    clear HA
    simp only [dW.l0] at H
    by_cases c6 : fK ≥ a1
    ·rw [if_pos c6] at H
     have gT : decide (a1 ≤ fK) = true := decide_eq_true c6
     clear c6
     by_cases c7 : a1 = 0
     ·rw [if_pos c7] at H
      exact absurd H (by simp)
     ·rw [if_neg c7] at H
      have iB : (a1 == 0) = false := beq_eq_false_iff_ne.mpr c7
      have j5 : (a1 != 0) = true := bne_iff_ne.mpr c7
      obtain ⟨fV, zS⟩ : ∃ j_ : Int, (Int.tmod fK a1) = j_ := ⟨_, rfl⟩
      replace H : (if 0 ≤ (fV) then (if (fV) < 16 then (if (Go.Utf8.encode (bt (⟨#[48, 49, 50, 51, 52, 53, 54, 55, 56, 57, 97, 98, 99, 100, 101, 102]⟩ : ByteArray) (fV))).size + dw.size ≤ 9223372036854775807 then (dW.l0 k1 (wrap64 (Int.tdiv fK a1)) a1 ((Go.Utf8.encode (bt (⟨#[48, 49, 50, 51, 52, 53, 54, 55, 56, 57, 97, 98, 99, 100, 101, 102]⟩ : ByteArray) (fV))) ++ dw)) else (none)) else (none)) else (none)) = some r := by first | (rw [zS] at H; exact H) | (simp only [zS] at H ⊢; exact H)
      by_cases c9 : 0 ≤ (fV)
      ·rw [if_pos c9] at H
       have Ck : decide (0 ≤ (fV)) = true := decide_eq_true c9
       clear c9
       by_cases c10 : (fV) < 16
       ·rw [if_pos c10] at H
        have zT : decide ((fV) < 16) = true := decide_eq_true c10
        clear c10
        by_cases c12 : (Go.Utf8.encode (bt (⟨#[48, 49, 50, 51, 52, 53, 54, 55, 56, 57, 97, 98, 99, 100, 101, 102]⟩ : ByteArray) (fV))).size + dw.size ≤ 9223372036854775807
        ·rw [if_pos c12] at H
         have wT := eq_true c12
         have wU : decide ((Go.Utf8.encode (bt (⟨#[48, 49, 50, 51, 52, 53, 54, 55, 56, 57, 97, 98, 99, 100, 101, 102]⟩ : ByteArray) (fV))).size + dw.size ≤ 9223372036854775807) = true := decide_eq_true c12
         try have SK : (9223372036854775807 < (Go.Utf8.encode (bt (⟨#[48, 49, 50, 51, 52, 53, 54, 55, 56, 57, 97, 98, 99, 100, 101, 102]⟩ : ByteArray) (fV))).size + dw.size) = False := eq_false (Nat.not_lt.2 c12)
         have H' := am H
         clear H
         have ru : 0 ≤ ((fV) : Int) := of_decide_eq_true (by first | (with_reducible assumption) | assumption)
         have rz : (fV) < (16 : Int) := of_decide_eq_true (by first | (with_reducible assumption) | assumption)
         have MQ := gQ (⟨#[48, 49, 50, 51, 52, 53, 54, 55, 56, 57, 97, 98, 99, 100, 101, 102]⟩ : ByteArray) (fV)
         replace ru := eq_true ru
         replace rz := eq_true rz
         go_wp2
         go_roundg k1
         case measure => have := eu.out; omega
         case rel => exact ⟨(wrap64 (Int.tdiv fK a1)), ((Go.Utf8.encode (bt (⟨#[48, 49, 50, 51, 52, 53, 54, 55, 56, 57, 97, 98, 99, 100, 101, 102]⟩ : ByteArray) (fV))) ++ dw), (by first | rfl | (simp; done) | (simp [*]; done)), (by first | rfl | (simp; done) | (simp only [← zS] <;> (first | rfl | simp)) | (simp [*]; done)), H', ⟨by have := eu.out; omega⟩, by repeat (first | exact bB.refl _ | apply bB.step)⟩
        ·rw [if_neg c12] at H
         exact absurd H (by simp)
       ·rw [if_neg c10] at H
        exact absurd H (by simp)
      ·rw [if_neg c9] at H
       exact absurd H (by simp)
    ·rw [if_neg c6] at H
     have gT : decide (a1 ≤ fK) = false := decide_eq_false c6
     clear c6
     by_cases c13 : 0 ≤ fK
     ·rw [if_pos c13] at H
      have kY : decide (0 ≤ fK) = true := decide_eq_true c13
      clear c13
      by_cases c14 : fK < 16
      ·rw [if_pos c14] at H
       have Cm : decide (fK < 16) = true := decide_eq_true c14
       clear c14
       by_cases c16 : (Go.Utf8.encode (bt (⟨#[48, 49, 50, 51, 52, 53, 54, 55, 56, 57, 97, 98, 99, 100, 101, 102]⟩ : ByteArray) fK)).size + dw.size ≤ 9223372036854775807
       ·rw [if_pos c16] at H
        have Ef := eq_true c16
        have LQ : decide ((Go.Utf8.encode (bt (⟨#[48, 49, 50, 51, 52, 53, 54, 55, 56, 57, 97, 98, 99, 100, 101, 102]⟩ : ByteArray) fK)).size + dw.size ≤ 9223372036854775807) = true := decide_eq_true c16
        try have LU : (9223372036854775807 < (Go.Utf8.encode (bt (⟨#[48, 49, 50, 51, 52, 53, 54, 55, 56, 57, 97, 98, 99, 100, 101, 102]⟩ : ByteArray) fK)).size + dw.size) = False := eq_false (Nat.not_lt.2 c16)
        obtain rfl := Option.some.inj H
        have SL : 0 ≤ (fK : Int) := of_decide_eq_true (by first | (with_reducible assumption) | assumption)
        have SN : fK < (16 : Int) := of_decide_eq_true (by first | (with_reducible assumption) | assumption)
        have aq2 := gQ (⟨#[48, 49, 50, 51, 52, 53, 54, 55, 56, 57, 97, 98, 99, 100, 101, 102]⟩ : ByteArray) fK
        replace SL := eq_true SL
        replace SN := eq_true SN
        go_wp2
        go_ret
        exact ⟨by first | rfl | (simp; done) | (simp [*]; done), by repeat (first | exact bB.refl _ | apply bB.step)⟩
       ·rw [if_neg c16] at H
        exact absurd H (by simp)
      ·rw [if_neg c14] at H
       exact absurd H (by simp)
     ·rw [if_neg c13] at H
      exact absurd H (by simp)
noncomputable def gq.l0 : Nat → ByteArray → Int → Int → ByteArray → Int → Int → Option (Int × Int)
 | 0, _, _, _, _, _, _ => none
 | k + 1, x0, x1, x6, x7, Hr, Et => if Et < Hr then (if 0 ≤ x1 then (if x1 ≤ 16 then (if 0 ≤ Et then (if Et < (x7.size : Int) then ((strings_IndexByte.f ((⟨#[48, 49, 50, 51, 52, 53, 54, 55, 56, 57, 97, 98, 99, 100, 101, 102]⟩ : ByteArray).extract 0 (x1 : Int).toNat) (bt x7 Et)).bind fun t111 => (if t111 < 0 then (some (0, 2)) else (if x6 > 1099511627776 then (some (0, 2)) else (gq.l0 k x0 x1 (wrap64 ((wrap64 (x6 * x1)) + t111)) x7 Hr (wrap64 (Et + 1)))))) else (none)) else (none)) else (none)) else (none)) else (if (x7.size : Int) < (x0.size : Int) then (if (wrap64 (-x6)) < (-1099511627776) then (some (0, 2)) else (if (wrap64 (-x6)) > 1099511627776 then (some (0, 2)) else ((dW.f k (wrap64 (-x6)) x1).bind fun t112 => (if t112.toList = x0.toList then (some (wrap64 (-x6), 0)) else (some (0, 2)))))) else (if x6 < (-1099511627776) then (some (0, 2)) else (if x6 > 1099511627776 then (some (0, 2)) else ((dW.f k x6 x1).bind fun t113 => (if t113.toList = x0.toList then (some (x6, 0)) else (some (0, 2)))))))
noncomputable def gq.f (k : Nat) (a0 : ByteArray) (a1 : Int) : Option (Int × Int) := (pX.f a1).bind fun t109 => (if t109 = true then ((strings_TrimPrefix.f a0 (⟨#[45]⟩ : ByteArray)).bind fun t110 => (gq.l0 k a0 a1 0 t110 (t110.size : Int) 0)) else (some (0, 1)))
theorem gq.gy : ∀ k, (∀ y0 y1 y2 y3 y4 y5, aN (gq.l0 k y0 y1 y2 y3 y4 y5) (gq.l0 (k + 1) y0 y1 y2 y3 y4 y5))
 | 0 => fun _ _ _ _ _ _ r h => by simp [gq.l0] at h
 | k + 1 => by
  have cZ := gq.gy k
  ·intro y0 y1 y2 y3 y4 y5
   unfold gq.l0
   repeat' first
   | (with_reducible exact cZ _ _ _ _ _ _)
   | (with_reducible exact dW.mono _ _ _)
   | (with_reducible exact aN.refl _)
   | (with_reducible exact aN.none _)
   | (with_reducible refine aN.ite ?_ ?_)
   | (with_reducible refine aN.bind ?_ (fun _ => ?_))
   | exact cZ _ _ _ _ _ _
   | exact dW.mono _ _ _
   | exact aN.none _
   | refine aN.ite ?_ ?_
   | refine aN.bind ?_ (fun _ => ?_)
theorem gq.mono : ∀ a0 a1 k, aN (gq.f k a0 a1) (gq.f (k + 1) a0 a1) := by
 intro a0 a1 k
 have cZ := gq.gy k
 unfold gq.f
 repeat' first
  | (with_reducible exact cZ _ _ _ _ _ _)
  | (with_reducible exact dW.mono _ _ _)
  | (with_reducible exact aN.refl _)
  | (with_reducible exact aN.none _)
  | (with_reducible refine aN.ite ?_ ?_)
  | (with_reducible refine aN.bind ?_ (fun _ => ?_))
  | exact cZ _ _ _ _ _ _
  | exact dW.mono _ _ _
  | exact aN.none _
  | refine aN.ite ?_ ?_
  | refine aN.bind ?_ (fun _ => ?_)
theorem gq.calls (k : Nat) (a0 : ByteArray) (a1 : Int) (r1 : Int) (r2 : Int) (w : World) (h : gq.f k a0 a1 = some (r1, r2)) :
 Calls Tryz.prog 188 #[.string a0, .int .i64 a1] w fun e w' => e = .returned (.tuple #[.int .i64 r1, .int .i64 r2]) ∧ bB w w' := by
 have H : ((pX.f a1).bind fun t109 => (if t109 = true then ((strings_TrimPrefix.f a0 (⟨#[45]⟩ : ByteArray)).bind fun t110 => (gq.l0 k a0 a1 0 t110 (t110.size : Int) 0)) else (some (0, 1)))) = some (r1, r2) := h
 clear h
 replace H := Option.bind_eq_some_iff.mp H
 obtain ⟨t109, fH, H⟩ := H
 replace H : (if t109 = true then ((strings_TrimPrefix.f a0 (⟨#[45]⟩ : ByteArray)).bind fun t110 => (gq.l0 k a0 a1 0 t110 (t110.size : Int) 0)) else (some (0, 1))) = some (r1, r2) := H
 have A3 := am fH
 clear fH
 by_cases c4 : t109 = true
 ·subst c4
  have H1 : ((strings_TrimPrefix.f a0 (⟨#[45]⟩ : ByteArray)).bind fun t110 => (gq.l0 k a0 a1 0 t110 (t110.size : Int) 0)) = some (r1, r2) := by rw [if_pos rfl] at H; exact H
  clear H
  have H := H1
  clear H1
  replace H := Option.bind_eq_some_iff.mp H
  obtain ⟨t110, jA, H⟩ := H
  replace H : (gq.l0 k a0 a1 0 t110 (t110.size : Int) 0) = some (r1, r2) := H
  have A5 := am jA
  clear jA
  have H' := am H
  clear H
  go_enter Tryz.func188, Tryz.ntmps188
  go_wp2_with (first | (go_at_call 262; (with_reducible refine (pX.calls a1 true _ A3.out).mono ?_); rintro e w' ⟨rfl, ⟨nd, rfl⟩⟩; (try first | exact ⟨rfl, _, World.drewN_drewN _ _ _⟩ | exact ⟨rfl, _, Eq.trans (World.drewN_drewN _ _ _) (congrArg (World.drewN _) (Nat.add_assoc _ _ _))⟩)) | (go_at_call 263; (with_reducible refine (strings_TrimPrefix.calls a0 (⟨#[45]⟩ : ByteArray) t110 _ A5.out).mono ?_); rintro e w' ⟨rfl, ⟨nd, rfl⟩⟩; (try first | exact ⟨rfl, _, World.drewN_drewN _ _ _⟩ | exact ⟨rfl, _, Eq.trans (World.drewN_drewN _ _ _) (congrArg (World.drewN _) (Nat.add_assoc _ _ _))⟩)))
  repeat (go_quiet (first | (go_at_call 262; (with_reducible refine (pX.calls a1 true _ A3.out).mono ?_); rintro e w' ⟨rfl, ⟨nd, rfl⟩⟩; (try first | exact ⟨rfl, _, World.drewN_drewN _ _ _⟩ | exact ⟨rfl, _, Eq.trans (World.drewN_drewN _ _ _) (congrArg (World.drewN _) (Nat.add_assoc _ _ _))⟩)) | (go_at_call 263; (with_reducible refine (strings_TrimPrefix.calls a0 (⟨#[45]⟩ : ByteArray) t110 _ A5.out).mono ?_); rintro e w' ⟨rfl, ⟨nd, rfl⟩⟩; (try first | exact ⟨rfl, _, World.drewN_drewN _ _ _⟩ | exact ⟨rfl, _, Eq.trans (World.drewN_drewN _ _ _) (congrArg (World.drewN _) (Nat.add_assoc _ _ _))⟩))); try go_wp2_with (first | (go_at_call 262; (with_reducible refine (pX.calls a1 true _ A3.out).mono ?_); rintro e w' ⟨rfl, ⟨nd, rfl⟩⟩; (try first | exact ⟨rfl, _, World.drewN_drewN _ _ _⟩ | exact ⟨rfl, _, Eq.trans (World.drewN_drewN _ _ _) (congrArg (World.drewN _) (Nat.add_assoc _ _ _))⟩)) | (go_at_call 263; (with_reducible refine (strings_TrimPrefix.calls a0 (⟨#[45]⟩ : ByteArray) t110 _ A5.out).mono ?_); rintro e w' ⟨rfl, ⟨nd, rfl⟩⟩; (try first | exact ⟨rfl, _, World.drewN_drewN _ _ _⟩ | exact ⟨rfl, _, Eq.trans (World.drewN_drewN _ _ _) (congrArg (World.drewN _) (Nat.add_assoc _ _ _))⟩))))
  go_loopg [6, 17] k (fun kq v6 v17 w' => ∃ (aH : Int) (iE : Int), v6 = .int .i64 aH ∧ v17 = .int .i64 iE ∧ bI (gq.l0 kq a0 a1 aH t110 (t110.size : Int) iE = some (r1, r2)) ∧ bI (kq ≤ k) ∧ bB w w')
  case atStart => exact ⟨(0), (0), (by first | rfl | (simp; done) | (simp [*]; done)), (by first | rfl | (simp; done) | (simp [*]; done)), H', ⟨Nat.le_refl _⟩, by repeat (first | exact bB.refl _ | apply bB.step)⟩
  case round =>
   clear H'
   try clear c1
   try clear p2
   try clear c4
   obtain ⟨aH, iE, rfl, rfl, HA, eu, ⟨m1, rfl⟩⟩ := hrel
   cases gk with
   | zero => exact absurd HA.out (by simp [gq.l0])
   | succ k1 =>
    have H := HA.out
    clear HA
    simp only [gq.l0] at H
    by_cases c6 : iE < (t110.size : Int)
    ·rw [if_pos c6] at H
     have gT : decide (iE < (t110.size : Int)) = true := decide_eq_true c6
     clear c6
     by_cases c7 : 0 ≤ a1
     ·rw [if_pos c7] at H
      have iB := eq_true c7
      have j5 : decide (0 ≤ a1) = true := decide_eq_true c7
      clear c7
      by_cases c8 : a1 ≤ 16
      ·rw [if_pos c8] at H
       have l8 := eq_true c8
       have l9 : decide (a1 ≤ 16) = true := decide_eq_true c8
       clear c8
       by_cases c9 : 0 ≤ iE
       ·rw [if_pos c9] at H
        have Ck : decide (0 ≤ iE) = true := decide_eq_true c9
        clear c9
        by_cases c10 : iE < (t110.size : Int)
        ·rw [if_pos c10] at H
         have zT : decide (iE < (t110.size : Int)) = true := decide_eq_true c10
         clear c10
         replace H := Option.bind_eq_some_iff.mp H
         obtain ⟨t111, qy, H⟩ := H
         replace H : (if t111 < 0 then (some (0, 2)) else (if aH > 1099511627776 then (some (0, 2)) else (gq.l0 k1 a0 a1 (wrap64 ((wrap64 (aH * a1)) + t111)) t110 (t110.size : Int) (wrap64 (iE + 1))))) = some (r1, r2) := H
         have lN := am qy
         clear qy
         by_cases c13 : t111 < 0
         ·rw [if_pos c13] at H
          have kY : decide (t111 < 0) = true := decide_eq_true c13
          clear c13
          simp only [Option.some.injEq, Prod.mk.injEq] at H
          obtain ⟨rfl, rfl⟩ := H
          have ru : 0 ≤ (iE : Int) := of_decide_eq_true (by first | (with_reducible assumption) | assumption)
          have rz : iE < (t110.size : Int) := of_decide_eq_true (by first | (with_reducible assumption) | assumption)
          have MQ := gQ t110 iE
          replace ru := eq_true ru
          replace rz := eq_true rz
          go_wp2_with (first | (go_at_call 264; (with_reducible refine (strings_IndexByte.calls ((⟨#[48, 49, 50, 51, 52, 53, 54, 55, 56, 57, 97, 98, 99, 100, 101, 102]⟩ : ByteArray).extract 0 (a1 : Int).toNat) (bt t110 iE) t111 _ lN.out).mono ?_); rintro e w' ⟨rfl, ⟨nd, rfl⟩⟩; (try first | exact ⟨rfl, _, World.drewN_drewN _ _ _⟩ | exact ⟨rfl, _, Eq.trans (World.drewN_drewN _ _ _) (congrArg (World.drewN _) (Nat.add_assoc _ _ _))⟩)))
          repeat (go_quiet (first | (go_at_call 264; (with_reducible refine (strings_IndexByte.calls ((⟨#[48, 49, 50, 51, 52, 53, 54, 55, 56, 57, 97, 98, 99, 100, 101, 102]⟩ : ByteArray).extract 0 (a1 : Int).toNat) (bt t110 iE) t111 _ lN.out).mono ?_); rintro e w' ⟨rfl, ⟨nd, rfl⟩⟩; (try first | exact ⟨rfl, _, World.drewN_drewN _ _ _⟩ | exact ⟨rfl, _, Eq.trans (World.drewN_drewN _ _ _) (congrArg (World.drewN _) (Nat.add_assoc _ _ _))⟩))); try go_wp2_with (first | (go_at_call 264; (with_reducible refine (strings_IndexByte.calls ((⟨#[48, 49, 50, 51, 52, 53, 54, 55, 56, 57, 97, 98, 99, 100, 101, 102]⟩ : ByteArray).extract 0 (a1 : Int).toNat) (bt t110 iE) t111 _ lN.out).mono ?_); rintro e w' ⟨rfl, ⟨nd, rfl⟩⟩; (try first | exact ⟨rfl, _, World.drewN_drewN _ _ _⟩ | exact ⟨rfl, _, Eq.trans (World.drewN_drewN _ _ _) (congrArg (World.drewN _) (Nat.add_assoc _ _ _))⟩))))
          go_ret2
          exact ⟨by first | rfl | (simp; done) | (simp [*]; done), by repeat (first | exact bB.refl _ | apply bB.step)⟩
         ·rw [if_neg c13] at H
          have kY : decide (t111 < 0) = false := decide_eq_false c13
          clear c13
          by_cases c14 : aH > 1099511627776
          ·rw [if_pos c14] at H
           have Cm : decide (1099511627776 < aH) = true := decide_eq_true c14
           clear c14
           simp only [Option.some.injEq, Prod.mk.injEq] at H
           obtain ⟨rfl, rfl⟩ := H
           have ru : 0 ≤ (iE : Int) := of_decide_eq_true (by first | (with_reducible assumption) | assumption)
           have rz : iE < (t110.size : Int) := of_decide_eq_true (by first | (with_reducible assumption) | assumption)
           have MQ := gQ t110 iE
           replace ru := eq_true ru
           replace rz := eq_true rz
           go_wp2_with (first | (go_at_call 264; (with_reducible refine (strings_IndexByte.calls ((⟨#[48, 49, 50, 51, 52, 53, 54, 55, 56, 57, 97, 98, 99, 100, 101, 102]⟩ : ByteArray).extract 0 (a1 : Int).toNat) (bt t110 iE) t111 _ lN.out).mono ?_); rintro e w' ⟨rfl, ⟨nd, rfl⟩⟩; (try first | exact ⟨rfl, _, World.drewN_drewN _ _ _⟩ | exact ⟨rfl, _, Eq.trans (World.drewN_drewN _ _ _) (congrArg (World.drewN _) (Nat.add_assoc _ _ _))⟩)))
           repeat (go_quiet (first | (go_at_call 264; (with_reducible refine (strings_IndexByte.calls ((⟨#[48, 49, 50, 51, 52, 53, 54, 55, 56, 57, 97, 98, 99, 100, 101, 102]⟩ : ByteArray).extract 0 (a1 : Int).toNat) (bt t110 iE) t111 _ lN.out).mono ?_); rintro e w' ⟨rfl, ⟨nd, rfl⟩⟩; (try first | exact ⟨rfl, _, World.drewN_drewN _ _ _⟩ | exact ⟨rfl, _, Eq.trans (World.drewN_drewN _ _ _) (congrArg (World.drewN _) (Nat.add_assoc _ _ _))⟩))); try go_wp2_with (first | (go_at_call 264; (with_reducible refine (strings_IndexByte.calls ((⟨#[48, 49, 50, 51, 52, 53, 54, 55, 56, 57, 97, 98, 99, 100, 101, 102]⟩ : ByteArray).extract 0 (a1 : Int).toNat) (bt t110 iE) t111 _ lN.out).mono ?_); rintro e w' ⟨rfl, ⟨nd, rfl⟩⟩; (try first | exact ⟨rfl, _, World.drewN_drewN _ _ _⟩ | exact ⟨rfl, _, Eq.trans (World.drewN_drewN _ _ _) (congrArg (World.drewN _) (Nat.add_assoc _ _ _))⟩))))
           go_ret2
           exact ⟨by first | rfl | (simp; done) | (simp [*]; done), by repeat (first | exact bB.refl _ | apply bB.step)⟩
          ·rw [if_neg c14] at H
           have Cm : decide (1099511627776 < aH) = false := decide_eq_false c14
           clear c14
           have H' := am H
           clear H
           have ru : 0 ≤ (iE : Int) := of_decide_eq_true (by first | (with_reducible assumption) | assumption)
           have rz : iE < (t110.size : Int) := of_decide_eq_true (by first | (with_reducible assumption) | assumption)
           have MQ := gQ t110 iE
           replace ru := eq_true ru
           replace rz := eq_true rz
           go_wp2_with (first | (go_at_call 264; (with_reducible refine (strings_IndexByte.calls ((⟨#[48, 49, 50, 51, 52, 53, 54, 55, 56, 57, 97, 98, 99, 100, 101, 102]⟩ : ByteArray).extract 0 (a1 : Int).toNat) (bt t110 iE) t111 _ lN.out).mono ?_); rintro e w' ⟨rfl, ⟨nd, rfl⟩⟩; (try first | exact ⟨rfl, _, World.drewN_drewN _ _ _⟩ | exact ⟨rfl, _, Eq.trans (World.drewN_drewN _ _ _) (congrArg (World.drewN _) (Nat.add_assoc _ _ _))⟩)))
           repeat (go_quiet (first | (go_at_call 264; (with_reducible refine (strings_IndexByte.calls ((⟨#[48, 49, 50, 51, 52, 53, 54, 55, 56, 57, 97, 98, 99, 100, 101, 102]⟩ : ByteArray).extract 0 (a1 : Int).toNat) (bt t110 iE) t111 _ lN.out).mono ?_); rintro e w' ⟨rfl, ⟨nd, rfl⟩⟩; (try first | exact ⟨rfl, _, World.drewN_drewN _ _ _⟩ | exact ⟨rfl, _, Eq.trans (World.drewN_drewN _ _ _) (congrArg (World.drewN _) (Nat.add_assoc _ _ _))⟩))); try go_wp2_with (first | (go_at_call 264; (with_reducible refine (strings_IndexByte.calls ((⟨#[48, 49, 50, 51, 52, 53, 54, 55, 56, 57, 97, 98, 99, 100, 101, 102]⟩ : ByteArray).extract 0 (a1 : Int).toNat) (bt t110 iE) t111 _ lN.out).mono ?_); rintro e w' ⟨rfl, ⟨nd, rfl⟩⟩; (try first | exact ⟨rfl, _, World.drewN_drewN _ _ _⟩ | exact ⟨rfl, _, Eq.trans (World.drewN_drewN _ _ _) (congrArg (World.drewN _) (Nat.add_assoc _ _ _))⟩))))
           go_roundg k1
           case measure => have := eu.out; omega
           case rel => exact ⟨(wrap64 ((wrap64 (aH * a1)) + t111)), (wrap64 (iE + 1)), (by first | rfl | (simp; done) | (simp [*]; done)), (by first | rfl | (simp; done) | (simp [*]; done)), H', ⟨by have := eu.out; omega⟩, by repeat (first | exact bB.refl _ | apply bB.step)⟩
        ·rw [if_neg c10] at H
         exact absurd H (by simp)
       ·rw [if_neg c9] at H
        exact absurd H (by simp)
      ·rw [if_neg c8] at H
       exact absurd H (by simp)
     ·rw [if_neg c7] at H
      exact absurd H (by simp)
    ·rw [if_neg c6] at H
     have gT : decide (iE < (t110.size : Int)) = false := decide_eq_false c6
     clear c6
     by_cases c15 : (t110.size : Int) < (a0.size : Int)
     ·rw [if_pos c15] at H
      have sV : decide ((t110.size : Int) < (a0.size : Int)) = true := decide_eq_true c15
      have xw : decide (t110.size < a0.size) = true := decide_eq_true (Int.ofNat_lt.mp c15)
      clear c15
      by_cases c16 : (wrap64 (-aH)) < (-1099511627776)
      ·rw [if_pos c16] at H
       have Ef : decide ((wrap64 (-aH)) < (-1099511627776)) = true := decide_eq_true c16
       clear c16
       simp only [Option.some.injEq, Prod.mk.injEq] at H
       obtain ⟨rfl, rfl⟩ := H
       go_wp2
       repeat (go_quiet (fail); try go_wp2)
       go_ret2
       exact ⟨by first | rfl | (simp; done) | (simp [*]; done), by repeat (first | exact bB.refl _ | apply bB.step)⟩
      ·rw [if_neg c16] at H
       have Ef : decide ((wrap64 (-aH)) < (-1099511627776)) = false := decide_eq_false c16
       clear c16
       by_cases c17 : (wrap64 (-aH)) > 1099511627776
       ·rw [if_pos c17] at H
        have yZ : decide (1099511627776 < (wrap64 (-aH))) = true := decide_eq_true c17
        clear c17
        simp only [Option.some.injEq, Prod.mk.injEq] at H
        obtain ⟨rfl, rfl⟩ := H
        go_wp2
        repeat (go_quiet (fail); try go_wp2)
        go_ret2
        exact ⟨by first | rfl | (simp; done) | (simp [*]; done), by repeat (first | exact bB.refl _ | apply bB.step)⟩
       ·rw [if_neg c17] at H
        have yZ : decide (1099511627776 < (wrap64 (-aH))) = false := decide_eq_false c17
        clear c17
        replace H := Option.bind_eq_some_iff.mp H
        obtain ⟨t112, SQ, H⟩ := H
        replace H : (if t112.toList = a0.toList then (some (wrap64 (-aH), 0)) else (some (0, 2))) = some (r1, r2) := H
        have Cn := am SQ
        clear SQ
        by_cases c19 : t112.toList = a0.toList
        ·rw [if_pos c19] at H
         have Gy : (t112.toList == a0.toList) = true := beq_iff_eq.mpr c19
         have Gz : (t112.toList != a0.toList) = false := bne_eq_false_iff_eq.mpr c19
         clear c19
         simp only [Option.some.injEq, Prod.mk.injEq] at H
         obtain ⟨rfl, rfl⟩ := H
         go_wp2_with (first | (go_at_call 265; (with_reducible refine (dW.calls k1 (wrap64 (-aH)) a1 t112 _ Cn.out).mono ?_); rintro e w' ⟨rfl, ⟨nd, rfl⟩⟩; (try first | exact ⟨rfl, _, World.drewN_drewN _ _ _⟩ | exact ⟨rfl, _, Eq.trans (World.drewN_drewN _ _ _) (congrArg (World.drewN _) (Nat.add_assoc _ _ _))⟩)))
         repeat (go_quiet (first | (go_at_call 265; (with_reducible refine (dW.calls k1 (wrap64 (-aH)) a1 t112 _ Cn.out).mono ?_); rintro e w' ⟨rfl, ⟨nd, rfl⟩⟩; (try first | exact ⟨rfl, _, World.drewN_drewN _ _ _⟩ | exact ⟨rfl, _, Eq.trans (World.drewN_drewN _ _ _) (congrArg (World.drewN _) (Nat.add_assoc _ _ _))⟩))); try go_wp2_with (first | (go_at_call 265; (with_reducible refine (dW.calls k1 (wrap64 (-aH)) a1 t112 _ Cn.out).mono ?_); rintro e w' ⟨rfl, ⟨nd, rfl⟩⟩; (try first | exact ⟨rfl, _, World.drewN_drewN _ _ _⟩ | exact ⟨rfl, _, Eq.trans (World.drewN_drewN _ _ _) (congrArg (World.drewN _) (Nat.add_assoc _ _ _))⟩))))
         go_ret2
         exact ⟨by first | rfl | (simp; done) | (simp [*]; done), by repeat (first | exact bB.refl _ | apply bB.step)⟩
        ·rw [if_neg c19] at H
         have Gy : (t112.toList == a0.toList) = false := beq_eq_false_iff_ne.mpr c19
         have Gz : (t112.toList != a0.toList) = true := bne_iff_ne.mpr c19
         simp only [Option.some.injEq, Prod.mk.injEq] at H
         obtain ⟨rfl, rfl⟩ := H
         go_wp2_with (first | (go_at_call 265; (with_reducible refine (dW.calls k1 (wrap64 (-aH)) a1 t112 _ Cn.out).mono ?_); rintro e w' ⟨rfl, ⟨nd, rfl⟩⟩; (try first | exact ⟨rfl, _, World.drewN_drewN _ _ _⟩ | exact ⟨rfl, _, Eq.trans (World.drewN_drewN _ _ _) (congrArg (World.drewN _) (Nat.add_assoc _ _ _))⟩)))
         repeat (go_quiet (first | (go_at_call 265; (with_reducible refine (dW.calls k1 (wrap64 (-aH)) a1 t112 _ Cn.out).mono ?_); rintro e w' ⟨rfl, ⟨nd, rfl⟩⟩; (try first | exact ⟨rfl, _, World.drewN_drewN _ _ _⟩ | exact ⟨rfl, _, Eq.trans (World.drewN_drewN _ _ _) (congrArg (World.drewN _) (Nat.add_assoc _ _ _))⟩))); try go_wp2_with (first | (go_at_call 265; (with_reducible refine (dW.calls k1 (wrap64 (-aH)) a1 t112 _ Cn.out).mono ?_); rintro e w' ⟨rfl, ⟨nd, rfl⟩⟩; (try first | exact ⟨rfl, _, World.drewN_drewN _ _ _⟩ | exact ⟨rfl, _, Eq.trans (World.drewN_drewN _ _ _) (congrArg (World.drewN _) (Nat.add_assoc _ _ _))⟩))))
         go_ret2
         exact ⟨by first | rfl | (simp; done) | (simp [*]; done), by repeat (first | exact bB.refl _ | apply bB.step)⟩
     ·rw [if_neg c15] at H
      have sV : decide ((t110.size : Int) < (a0.size : Int)) = false := decide_eq_false c15
      have xw : decide (t110.size < a0.size) = false := decide_eq_false (fun h => c15 (Int.ofNat_lt.mpr h))
      clear c15
      by_cases c20 : aH < (-1099511627776)
      ·rw [if_pos c20] at H
       have adI : decide (aH < (-1099511627776)) = true := decide_eq_true c20
       clear c20
       simp only [Option.some.injEq, Prod.mk.injEq] at H
       obtain ⟨rfl, rfl⟩ := H
       go_wp2
       repeat (go_quiet (fail); try go_wp2)
       go_ret2
       exact ⟨by first | rfl | (simp; done) | (simp [*]; done), by repeat (first | exact bB.refl _ | apply bB.step)⟩
      ·rw [if_neg c20] at H
       have adI : decide (aH < (-1099511627776)) = false := decide_eq_false c20
       clear c20
       by_cases c21 : aH > 1099511627776
       ·rw [if_pos c21] at H
        have MR : decide (1099511627776 < aH) = true := decide_eq_true c21
        clear c21
        simp only [Option.some.injEq, Prod.mk.injEq] at H
        obtain ⟨rfl, rfl⟩ := H
        go_wp2
        repeat (go_quiet (fail); try go_wp2)
        go_ret2
        exact ⟨by first | rfl | (simp; done) | (simp [*]; done), by repeat (first | exact bB.refl _ | apply bB.step)⟩
       ·rw [if_neg c21] at H
        have MR : decide (1099511627776 < aH) = false := decide_eq_false c21
        clear c21
        replace H := Option.bind_eq_some_iff.mp H
        obtain ⟨t113, xq, H⟩ := H
        replace H : (if t113.toList = a0.toList then (some (aH, 0)) else (some (0, 2))) = some (r1, r2) := H
        have qx := am xq
        clear xq
        by_cases c23 : t113.toList = a0.toList
        ·rw [if_pos c23] at H
         have uz : (t113.toList == a0.toList) = true := beq_iff_eq.mpr c23
         have wV : (t113.toList != a0.toList) = false := bne_eq_false_iff_eq.mpr c23
         clear c23
         simp only [Option.some.injEq, Prod.mk.injEq] at H
         obtain ⟨rfl, rfl⟩ := H
         go_wp2_with (first | (go_at_call 265; (with_reducible refine (dW.calls k1 aH a1 t113 _ qx.out).mono ?_); rintro e w' ⟨rfl, ⟨nd, rfl⟩⟩; (try first | exact ⟨rfl, _, World.drewN_drewN _ _ _⟩ | exact ⟨rfl, _, Eq.trans (World.drewN_drewN _ _ _) (congrArg (World.drewN _) (Nat.add_assoc _ _ _))⟩)))
         repeat (go_quiet (first | (go_at_call 265; (with_reducible refine (dW.calls k1 aH a1 t113 _ qx.out).mono ?_); rintro e w' ⟨rfl, ⟨nd, rfl⟩⟩; (try first | exact ⟨rfl, _, World.drewN_drewN _ _ _⟩ | exact ⟨rfl, _, Eq.trans (World.drewN_drewN _ _ _) (congrArg (World.drewN _) (Nat.add_assoc _ _ _))⟩))); try go_wp2_with (first | (go_at_call 265; (with_reducible refine (dW.calls k1 aH a1 t113 _ qx.out).mono ?_); rintro e w' ⟨rfl, ⟨nd, rfl⟩⟩; (try first | exact ⟨rfl, _, World.drewN_drewN _ _ _⟩ | exact ⟨rfl, _, Eq.trans (World.drewN_drewN _ _ _) (congrArg (World.drewN _) (Nat.add_assoc _ _ _))⟩))))
         go_ret2
         exact ⟨by first | rfl | (simp; done) | (simp [*]; done), by repeat (first | exact bB.refl _ | apply bB.step)⟩
        ·rw [if_neg c23] at H
         have uz : (t113.toList == a0.toList) = false := beq_eq_false_iff_ne.mpr c23
         have wV : (t113.toList != a0.toList) = true := bne_iff_ne.mpr c23
         simp only [Option.some.injEq, Prod.mk.injEq] at H
         obtain ⟨rfl, rfl⟩ := H
         go_wp2_with (first | (go_at_call 265; (with_reducible refine (dW.calls k1 aH a1 t113 _ qx.out).mono ?_); rintro e w' ⟨rfl, ⟨nd, rfl⟩⟩; (try first | exact ⟨rfl, _, World.drewN_drewN _ _ _⟩ | exact ⟨rfl, _, Eq.trans (World.drewN_drewN _ _ _) (congrArg (World.drewN _) (Nat.add_assoc _ _ _))⟩)))
         repeat (go_quiet (first | (go_at_call 265; (with_reducible refine (dW.calls k1 aH a1 t113 _ qx.out).mono ?_); rintro e w' ⟨rfl, ⟨nd, rfl⟩⟩; (try first | exact ⟨rfl, _, World.drewN_drewN _ _ _⟩ | exact ⟨rfl, _, Eq.trans (World.drewN_drewN _ _ _) (congrArg (World.drewN _) (Nat.add_assoc _ _ _))⟩))); try go_wp2_with (first | (go_at_call 265; (with_reducible refine (dW.calls k1 aH a1 t113 _ qx.out).mono ?_); rintro e w' ⟨rfl, ⟨nd, rfl⟩⟩; (try first | exact ⟨rfl, _, World.drewN_drewN _ _ _⟩ | exact ⟨rfl, _, Eq.trans (World.drewN_drewN _ _ _) (congrArg (World.drewN _) (Nat.add_assoc _ _ _))⟩))))
         go_ret2
         exact ⟨by first | rfl | (simp; done) | (simp [*]; done), by repeat (first | exact bB.refl _ | apply bB.step)⟩
 ·replace c4 := Bool.eq_false_iff.mpr c4
  subst c4
  have H1 : (some (0, 1)) = some (r1, r2) := by rw [if_neg (show ¬ (false = true) by decide)] at H; exact H
  clear H
  have H := H1
  clear H1
  simp only [Option.some.injEq, Prod.mk.injEq] at H
  obtain ⟨rfl, rfl⟩ := H
  go_enter Tryz.func188, Tryz.ntmps188
  go_wp2_with (first | (go_at_call 262; (with_reducible refine (pX.calls a1 false _ A3.out).mono ?_); rintro e w' ⟨rfl, ⟨nd, rfl⟩⟩; (try first | exact ⟨rfl, _, World.drewN_drewN _ _ _⟩ | exact ⟨rfl, _, Eq.trans (World.drewN_drewN _ _ _) (congrArg (World.drewN _) (Nat.add_assoc _ _ _))⟩)))
  repeat (go_quiet (first | (go_at_call 262; (with_reducible refine (pX.calls a1 false _ A3.out).mono ?_); rintro e w' ⟨rfl, ⟨nd, rfl⟩⟩; (try first | exact ⟨rfl, _, World.drewN_drewN _ _ _⟩ | exact ⟨rfl, _, Eq.trans (World.drewN_drewN _ _ _) (congrArg (World.drewN _) (Nat.add_assoc _ _ _))⟩))); try go_wp2_with (first | (go_at_call 262; (with_reducible refine (pX.calls a1 false _ A3.out).mono ?_); rintro e w' ⟨rfl, ⟨nd, rfl⟩⟩; (try first | exact ⟨rfl, _, World.drewN_drewN _ _ _⟩ | exact ⟨rfl, _, Eq.trans (World.drewN_drewN _ _ _) (congrArg (World.drewN _) (Nat.add_assoc _ _ _))⟩))))
  go_ret2
  exact ⟨by first | rfl | (simp; done) | (simp [*]; done), by repeat (first | exact bB.refl _ | apply bB.step)⟩
end Go.Proofs.YtgliaoanlhbepaaGreatDoor.Q
