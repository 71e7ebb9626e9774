/- Walks, printed by a program of this session: what each function of the law computes. -/
import Derived.Test.YtgliaoanlhbepaaGreatDoorQ0
import Derived.Test.YtgliaoanlhbepaaGreatDoorQ7
import Derived.Test.YtgliaoanlhbepaaGreatDoorQ9
namespace Go.Proofs.YtgliaoanlhbepaaGreatDoor.Q
open Go.RowKit Go.Proofs.bT.eG Go.Proofs.bT.iM Go.Proofs.bT.jd
open Go.Proofs.bT.eG renaming lF → pN, lZ → au, l6 → bA, mZ → bS, m_ → bZ, ng → bP, ni → kN, nk → kD, nu → kA, ny → fz, nA → kB, lH → kL
attribute [local go_sem] nC nD nE nG nH nI nJ nK
set_option maxHeartbeats 8000000
set_option maxRecDepth 100000
set_option linter.unusedVariables false
set_option linter.unusedSimpArgs false
noncomputable def dN.j0 : Nat → Int → Bool → Int → Int → ByteArray → Bool → Bool → Option (Bool)
 | 0, _, _, _, _, _, _, _ => none
 | k + 1, x4, x5, ZQ, DC, DF, RF, ZR => if x5 = true then ((kV.f DC 1 31).bind fun t233 => (if t233 = true then (some (DF.toList == ([] : List UInt8))) else (some false))) else (if x4 = 5 then (if DC = 0 then ((mK.f k DF).bind fun t234 => (some t234)) else (some false)) else (if x4 = 0 then (if DC = 0 then (if DF.toList = ([] : List UInt8) then (some (!RF)) else (some false)) else (some false)) else (if x4 = 4 then (if DC = 0 then (if DF.toList = ([] : List UInt8) then (if RF = true then (some false) else (some (!ZR))) else (some false)) else (some false)) else (if ZQ = 1 then (if DC = 0 then (some (DF.toList == ([] : List UInt8))) else (some false)) else (some false)))))
noncomputable def dN.f (k : Nat) (ah : Int) (av : Int) (aG : ByteArray) (aJ : Bool) (aI : Bool) : Option (Bool) := if ah = 2 then (dN.j0 k ah (ah == 2) ah av aG aJ aI) else (dN.j0 k ah (ah == 3) ah av aG aJ aI)
theorem dN.gy : ∀ k, (∀ y0 y1 y2 y3 y4 y5 y6, aN (dN.j0 k y0 y1 y2 y3 y4 y5 y6) (dN.j0 (k + 1) y0 y1 y2 y3 y4 y5 y6))
 | 0 => fun _ _ _ _ _ _ _ r h => by simp [dN.j0] at h
 | k + 1 => by
  have cZ := dN.gy k
  ·intro y0 y1 y2 y3 y4 y5 y6
   unfold dN.j0
   repeat' first
   | (with_reducible exact cZ _ _ _ _ _ _ _)
   | (with_reducible exact mK.mono _ _)
   | (with_reducible exact aN.refl _)
   | (with_reducible exact aN.none _)
   | (with_reducible refine aN.ite ?_ ?_)
   | (with_reducible refine aN.bind ?_ (fun _ => ?_))
   | exact cZ _ _ _ _ _ _ _
   | exact mK.mono _ _
   | exact aN.none _
   | refine aN.ite ?_ ?_
   | refine aN.bind ?_ (fun _ => ?_)
theorem dN.mono : ∀ a0 a1 a2 a3 a4 k, aN (dN.f k a0 a1 a2 a3 a4) (dN.f (k + 1) a0 a1 a2 a3 a4) := by
 intro a0 a1 a2 a3 a4 k
 have cZ := dN.gy k
 unfold dN.f
 repeat' first
  | (with_reducible exact cZ _ _ _ _ _ _ _)
  | (with_reducible exact mK.mono _ _)
  | (with_reducible exact aN.refl _)
  | (with_reducible exact aN.none _)
  | (with_reducible refine aN.ite ?_ ?_)
  | (with_reducible refine aN.bind ?_ (fun _ => ?_))
  | exact cZ _ _ _ _ _ _ _
  | exact mK.mono _ _
  | exact aN.none _
  | refine aN.ite ?_ ?_
  | refine aN.bind ?_ (fun _ => ?_)
theorem dN.calls (k : Nat) (ah : Int) (av : Int) (aG : ByteArray) (aJ : Bool) (aI : Bool) (r : Bool) (w : World) (h : dN.f k ah av aG aJ aI = some r) :
 Calls Tryz.prog 42 #[.agg #[.int .i64 ah, .int .i64 av, .string aG, .bool aJ, .bool aI]] w fun e w' => e = .returned (.bool r) ∧ Below w.heap.size w w' := by
 have lI := Tryz.underlying29
 have HB := am (Below.refl w.heap.size w)
 have H : (if ah = 2 then (dN.j0 k ah (ah == 2) ah av aG aJ aI) else (dN.j0 k ah (ah == 3) ah av aG aJ aI)) = some r := h
 clear h
 have qb := am H
 clear H
 go_enter Tryz.func42, Tryz.ntmps42
 go_upto_if 5 with (first | ((with_reducible refine cK (N := 1) rfl ?_); refine cO ?hg (N := 1) ?hd (cs := #[.int .i64 ah, .int .i64 av, .string aG, .bool aJ, .bool aI]) (t := 29) ?hr ?_; (case hd => rfl); (case hg => rfl); (case hr => first | (go_simp; done) | (go_simp; rfl)); intro Gx hg w3 aV hb; have ay := am (bP (by repeat (first | (with_reducible first | exact HB.out | apply bA | apply pN | apply au) | exact HB.out)) hb); have aA := am (aV); have aK := am ((by rw [hg]; exact (bZ (by repeat (first | (with_reducible first | exact HB.out | apply bA | apply pN | apply au) | exact HB.out))) : w.heap.size ≤ Gx)); have aU := am ((by rw [hg]; exact (bZ (by repeat (first | (with_reducible first | exact HB.out | apply bA | apply pN | apply au) | exact HB.out))) : w.heap.size ≤ Gx)); clear HB; have HB := ay; have bn := aA; have ahr := aK; have lJ := aU; clear ay aA aK aU; clear hb aV hg; have := cz bn.out 0 rfl; have := cz bn.out 1 rfl; have := cz bn.out 2 rfl; have := cz bn.out 3 rfl; have := cz bn.out 4 rfl; have := fz bn.out 0; have := fz bn.out 1; have := fz bn.out 2; have := fz bn.out 3; have := fz bn.out 4))
 (try simp only [Act.put, List.setIfInBounds_toArray, List.set_cons_zero, List.set_cons_succ])
 go_cut [5] (fun v5 wc => ∃ (kq : Nat) (dw : Bool), v5 = .bool dw ∧ bI (dN.j0 kq ah dw ah av aG aJ aI = some r) ∧ bI (kq ≤ k) ∧ bI (wc.heap[Gx]? = some (.cells #[.int .i64 ah, .int .i64 av, .string aG, .bool aJ, .bool aI] 29 (0, 0))) ∧ bI (Below w.heap.size w wc))
 case first =>
  have H := qb.out
  clear qb
  by_cases c5 : ah = 2
  ·rw [if_pos c5] at H
   have g_ : (ah == 2) = true := beq_iff_eq.mpr c5
   have kW : (ah != 2) = false := bne_eq_false_iff_eq.mpr c5
   clear c5
   (first | rw [g_] | (simp only [dS, eZ]; rw [g_]) | skip)
   have H' := am H
   clear H
   go_wp2
   go_meet
   case rel => exact ⟨_, ((ah == 2)), (by first | rfl | (simp; done) | (simp [*]; done)), H', ⟨by first | omega | exact Nat.le_refl _⟩, ⟨by (with_reducible repeat (first | apply kN | apply kD | apply kA)); exact bn.out⟩, ⟨by repeat (first | (with_reducible first | exact HB.out | apply bA | apply pN | apply au | refine bS ?_ lJ.out) | exact HB.out)⟩⟩
  ·rw [if_neg c5] at H
   have g_ : (ah == 2) = false := beq_eq_false_iff_ne.mpr c5
   have kW : (ah != 2) = true := bne_iff_ne.mpr c5
   (first | rw [g_] | (simp only [dS, eZ]; rw [g_]) | skip)
   have H' := am H
   clear H
   go_wp2
   go_meet
   case rel => exact ⟨_, ((ah == 3)), (by first | rfl | (simp; done) | (simp [*]; done)), H', ⟨by first | omega | exact Nat.le_refl _⟩, ⟨by (with_reducible repeat (first | apply kN | apply kD | apply kA)); exact bn.out⟩, ⟨by repeat (first | (with_reducible first | exact HB.out | apply bA | apply pN | apply au | refine bS ?_ lJ.out) | exact HB.out)⟩⟩
 case rest =>
  clear qb
  try clear p2
  try clear c4
  try clear c5
  try clear g_
  try clear kW
  try clear ahs
  try clear aht
  try clear ahu
  try clear ahv
  try clear ahw
  try clear ahx
  try clear ahy
  try clear ahz
  try clear ahA
  try clear ahB
  obtain ⟨kq, dw, rfl, HA, RG, bn, HB⟩ := hcut
  cases kq with
  | zero => exact absurd HA.out (by simp [dN.j0])
  | succ n_ =>
   have H := HA.out
   clear HA
   simp only [dN.j0] at H
   by_cases c6 : dw = true
   ·subst c6
    have H1 : ((kV.f av 1 31).bind fun t233 => (if t233 = true then (some (aG.toList == ([] : List UInt8))) else (some false))) = some r := by rw [if_pos rfl] at H; exact H
    clear H
    have H := H1
    clear H1
    replace H := Option.bind_eq_some_iff.mp H
    obtain ⟨t233, wS, H⟩ := H
    replace H : (if t233 = true then (some (aG.toList == ([] : List UInt8))) else (some false)) = some r := H
    have A7 := am wS
    clear wS
    by_cases c8 : t233 = true
    ·subst c8
     have H1 : (some (aG.toList == ([] : List UInt8))) = some r := by rw [if_pos rfl] at H; exact H
     clear H
     have H := H1
     clear H1
     obtain rfl := Option.some.inj H
     have := cz bn.out 0 rfl
     have := cz bn.out 1 rfl
     have := cz bn.out 2 rfl
     have := cz bn.out 3 rfl
     have := cz bn.out 4 rfl
     have := fz bn.out 0
     have := fz bn.out 1
     have := fz bn.out 2
     have := fz bn.out 3
     have := fz bn.out 4
     go_wp2_with (first | ((with_reducible refine bY (f := 44) rfl ?_); refine b_ (some 10) rfl rfl Tryz.func44 (by kernel_rfl) rfl #[.int .i64 av, .int .i64 1, .int .i64 31] rfl (by (try simp only [List.map_toArray, List.map_cons, List.map_nil]); first | done | rfl | (simp only [List.length_drop, List.length_take]; rfl)) ?_; (with_reducible refine (kV.calls av 1 31 true _ A7.out).mono ?_); rintro e w' ⟨rfl, ⟨nd, rfl⟩⟩; refine ⟨_, rfl, ?_⟩))
     go_ret
     exact ⟨by first | rfl | (simp [aQ, aR] <;> rfl) | (simp [*, aQ, aR] <;> rfl), by repeat (first | (with_reducible first | exact HB.out | apply bA | apply pN | apply au | refine bS ?_ lJ.out) | exact HB.out)⟩
    ·replace c8 := Bool.eq_false_iff.mpr c8
     subst c8
     have H1 : (some false) = some r := by rw [if_neg (show ¬ (false = true) by decide)] at H; exact H
     clear H
     have H := H1
     clear H1
     obtain rfl := Option.some.inj H
     have := cz bn.out 0 rfl
     have := cz bn.out 1 rfl
     have := cz bn.out 2 rfl
     have := cz bn.out 3 rfl
     have := cz bn.out 4 rfl
     have := fz bn.out 0
     have := fz bn.out 1
     have := fz bn.out 2
     have := fz bn.out 3
     have := fz bn.out 4
     go_wp2_with (first | ((with_reducible refine bY (f := 44) rfl ?_); refine b_ (some 10) rfl rfl Tryz.func44 (by kernel_rfl) rfl #[.int .i64 av, .int .i64 1, .int .i64 31] rfl (by (try simp only [List.map_toArray, List.map_cons, List.map_nil]); first | done | rfl | (simp only [List.length_drop, List.length_take]; rfl)) ?_; (with_reducible refine (kV.calls av 1 31 false _ A7.out).mono ?_); rintro e w' ⟨rfl, ⟨nd, rfl⟩⟩; refine ⟨_, rfl, ?_⟩))
     go_ret
     exact ⟨by first | rfl | (simp [aQ, aR] <;> rfl) | (simp [*, aQ, aR] <;> rfl), by repeat (first | (with_reducible first | exact HB.out | apply bA | apply pN | apply au | refine bS ?_ lJ.out) | exact HB.out)⟩
   ·replace c6 := Bool.eq_false_iff.mpr c6
    subst c6
    have H1 : (if ah = 5 then (if av = 0 then ((mK.f n_ aG).bind fun t234 => (some t234)) else (some false)) else (if ah = 0 then (if av = 0 then (if aG.toList = ([] : List UInt8) then (some (!aJ)) else (some false)) else (some false)) else (if ah = 4 then (if av = 0 then (if aG.toList = ([] : List UInt8) then (if aJ = true then (some false) else (some (!aI))) else (some false)) else (some false)) else (if ah = 1 then (if av = 0 then (some (aG.toList == ([] : List UInt8))) else (some false)) else (some false))))) = some r := by rw [if_neg (show ¬ (false = true) by decide)] at H; exact H
    clear H
    have H := H1
    clear H1
    by_cases c11 : ah = 5
    ·rw [if_pos c11] at H
     have og : (ah == 5) = true := beq_iff_eq.mpr c11
     have oZ : (ah != 5) = false := bne_eq_false_iff_eq.mpr c11
     clear c11
     by_cases c12 : av = 0
     ·rw [if_pos c12] at H
      have wT : (av == 0) = true := beq_iff_eq.mpr c12
      have wU : (av != 0) = false := bne_eq_false_iff_eq.mpr c12
      clear c12
      replace H := Option.bind_eq_some_iff.mp H
      obtain ⟨t234, DI, H⟩ := H
      replace H : (some t234) = some r := H
      have Lf := am DI
      clear DI
      obtain rfl := Option.some.inj H
      have := cz bn.out 0 rfl
      have := cz bn.out 1 rfl
      have := cz bn.out 2 rfl
      have := cz bn.out 3 rfl
      have := cz bn.out 4 rfl
      have := fz bn.out 0
      have := fz bn.out 1
      have := fz bn.out 2
      have := fz bn.out 3
      have := fz bn.out 4
      go_wp2_with (first | (go_at_call 73; (with_reducible refine (mK.calls n_ aG t234 _ Lf.out).mono ?_); rintro e yY ⟨rfl, hb⟩; have ay := am (kB (g := Gx) (o := .cells #[.int .i64 ah, .int .i64 av, .string aG, .bool aJ, .bool aI] 29 (0, 0)) (by (with_reducible repeat (first | apply kN | apply kD | apply kA)); exact bn.out) hb); have aA := am (bP (by repeat (first | (with_reducible first | exact HB.out | apply bA | apply pN | apply au | refine bS ?_ lJ.out) | exact HB.out)) hb); clear bn; clear HB; have bn := ay; have HB := aA; clear ay aA; (try clear hb); (try clear hb2); (try clear hk); (try clear hi)))
      go_ret
      exact ⟨by first | rfl | (simp [aQ, aR] <;> rfl) | (simp [*, aQ, aR] <;> rfl), by repeat (first | (with_reducible first | exact HB.out | apply bA | apply pN | apply au | refine bS ?_ lJ.out) | exact HB.out)⟩
     ·rw [if_neg c12] at H
      have wT : (av == 0) = false := beq_eq_false_iff_ne.mpr c12
      have wU : (av != 0) = true := bne_iff_ne.mpr c12
      obtain rfl := Option.some.inj H
      have := cz bn.out 0 rfl
      have := cz bn.out 1 rfl
      have := cz bn.out 2 rfl
      have := cz bn.out 3 rfl
      have := cz bn.out 4 rfl
      have := fz bn.out 0
      have := fz bn.out 1
      have := fz bn.out 2
      have := fz bn.out 3
      have := fz bn.out 4
      go_wp2
      go_ret
      exact ⟨by first | rfl | (simp [aQ, aR] <;> rfl) | (simp [*, aQ, aR] <;> rfl), by repeat (first | (with_reducible first | exact HB.out | apply bA | apply pN | apply au | refine bS ?_ lJ.out) | exact HB.out)⟩
    ·rw [if_neg c11] at H
     have og : (ah == 5) = false := beq_eq_false_iff_ne.mpr c11
     have oZ : (ah != 5) = true := bne_iff_ne.mpr c11
     by_cases c17 : ah = 0
     ·rw [if_pos c17] at H
      have yZ : (ah == 0) = true := beq_iff_eq.mpr c17
      have DJ : (ah != 0) = false := bne_eq_false_iff_eq.mpr c17
      clear c17
      by_cases c18 : av = 0
      ·rw [if_pos c18] at H
       have BQ : (av == 0) = true := beq_iff_eq.mpr c18
       have BR : (av != 0) = false := bne_eq_false_iff_eq.mpr c18
       clear c18
       by_cases c19 : aG.toList = ([] : List UInt8)
       ·rw [if_pos c19] at H
        have Gy : (aG.toList == ([] : List UInt8)) = true := beq_iff_eq.mpr c19
        have Gz : (aG.toList != ([] : List UInt8)) = false := bne_eq_false_iff_eq.mpr c19
        clear c19
        obtain rfl := Option.some.inj H
        have := cz bn.out 0 rfl
        have := cz bn.out 1 rfl
        have := cz bn.out 2 rfl
        have := cz bn.out 3 rfl
        have := cz bn.out 4 rfl
        have := fz bn.out 0
        have := fz bn.out 1
        have := fz bn.out 2
        have := fz bn.out 3
        have := fz bn.out 4
        go_wp2
        go_ret
        exact ⟨by first | rfl | (simp [aQ, aR] <;> rfl) | (simp [*, aQ, aR] <;> rfl), by repeat (first | (with_reducible first | exact HB.out | apply bA | apply pN | apply au | refine bS ?_ lJ.out) | exact HB.out)⟩
       ·rw [if_neg c19] at H
        have Gy : (aG.toList == ([] : List UInt8)) = false := beq_eq_false_iff_ne.mpr c19
        have Gz : (aG.toList != ([] : List UInt8)) = true := bne_iff_ne.mpr c19
        obtain rfl := Option.some.inj H
        have := cz bn.out 0 rfl
        have := cz bn.out 1 rfl
        have := cz bn.out 2 rfl
        have := cz bn.out 3 rfl
        have := cz bn.out 4 rfl
        have := fz bn.out 0
        have := fz bn.out 1
        have := fz bn.out 2
        have := fz bn.out 3
        have := fz bn.out 4
        go_wp2
        go_ret
        exact ⟨by first | rfl | (simp [aQ, aR] <;> rfl) | (simp [*, aQ, aR] <;> rfl), by repeat (first | (with_reducible first | exact HB.out | apply bA | apply pN | apply au | refine bS ?_ lJ.out) | exact HB.out)⟩
      ·rw [if_neg c18] at H
       have BQ : (av == 0) = false := beq_eq_false_iff_ne.mpr c18
       have BR : (av != 0) = true := bne_iff_ne.mpr c18
       obtain rfl := Option.some.inj H
       have := cz bn.out 0 rfl
       have := cz bn.out 1 rfl
       have := cz bn.out 2 rfl
       have := cz bn.out 3 rfl
       have := cz bn.out 4 rfl
       have := fz bn.out 0
       have := fz bn.out 1
       have := fz bn.out 2
       have := fz bn.out 3
       have := fz bn.out 4
       go_wp2
       go_ret
       exact ⟨by first | rfl | (simp [aQ, aR] <;> rfl) | (simp [*, aQ, aR] <;> rfl), by repeat (first | (with_reducible first | exact HB.out | apply bA | apply pN | apply au | refine bS ?_ lJ.out) | exact HB.out)⟩
     ·rw [if_neg c17] at H
      have yZ : (ah == 0) = false := beq_eq_false_iff_ne.mpr c17
      have DJ : (ah != 0) = true := bne_iff_ne.mpr c17
      by_cases c23 : ah = 4
      ·rw [if_pos c23] at H
       have uz : (ah == 4) = true := beq_iff_eq.mpr c23
       have wV : (ah != 4) = false := bne_eq_false_iff_eq.mpr c23
       clear c23
       by_cases c24 : av = 0
       ·rw [if_pos c24] at H
        have y7 : (av == 0) = true := beq_iff_eq.mpr c24
        have DK : (av != 0) = false := bne_eq_false_iff_eq.mpr c24
        clear c24
        by_cases iZ : aG.toList = ([] : List UInt8)
        ·rw [if_pos iZ] at H
         have Lg : (aG.toList == ([] : List UInt8)) = true := beq_iff_eq.mpr iZ
         have Lh : (aG.toList != ([] : List UInt8)) = false := bne_eq_false_iff_eq.mpr iZ
         clear iZ
         by_cases lK : aJ = true
         ·subst lK
          have H1 : (some false) = some r := by rw [if_pos rfl] at H; exact H
          clear H
          have H := H1
          clear H1
          obtain rfl := Option.some.inj H
          have := cz bn.out 0 rfl
          have := cz bn.out 1 rfl
          have := cz bn.out 2 rfl
          have := cz bn.out 3 rfl
          have := cz bn.out 4 rfl
          have := fz bn.out 0
          have := fz bn.out 1
          have := fz bn.out 2
          have := fz bn.out 3
          have := fz bn.out 4
          go_wp2
          go_ret
          exact ⟨by first | rfl | (simp [aQ, aR] <;> rfl) | (simp [*, aQ, aR] <;> rfl), by repeat (first | (with_reducible first | exact HB.out | apply bA | apply pN | apply au | refine bS ?_ lJ.out) | exact HB.out)⟩
         ·replace lK := Bool.eq_false_iff.mpr lK
          subst lK
          have H1 : (some (!aI)) = some r := by rw [if_neg (show ¬ (false = true) by decide)] at H; exact H
          clear H
          have H := H1
          clear H1
          obtain rfl := Option.some.inj H
          have := cz bn.out 0 rfl
          have := cz bn.out 1 rfl
          have := cz bn.out 2 rfl
          have := cz bn.out 3 rfl
          have := cz bn.out 4 rfl
          have := fz bn.out 0
          have := fz bn.out 1
          have := fz bn.out 2
          have := fz bn.out 3
          have := fz bn.out 4
          go_wp2
          go_ret
          exact ⟨by first | rfl | (simp [aQ, aR] <;> rfl) | (simp [*, aQ, aR] <;> rfl), by repeat (first | (with_reducible first | exact HB.out | apply bA | apply pN | apply au | refine bS ?_ lJ.out) | exact HB.out)⟩
        ·rw [if_neg iZ] at H
         have Lg : (aG.toList == ([] : List UInt8)) = false := beq_eq_false_iff_ne.mpr iZ
         have Lh : (aG.toList != ([] : List UInt8)) = true := bne_iff_ne.mpr iZ
         obtain rfl := Option.some.inj H
         have := cz bn.out 0 rfl
         have := cz bn.out 1 rfl
         have := cz bn.out 2 rfl
         have := cz bn.out 3 rfl
         have := cz bn.out 4 rfl
         have := fz bn.out 0
         have := fz bn.out 1
         have := fz bn.out 2
         have := fz bn.out 3
         have := fz bn.out 4
         go_wp2
         go_ret
         exact ⟨by first | rfl | (simp [aQ, aR] <;> rfl) | (simp [*, aQ, aR] <;> rfl), by repeat (first | (with_reducible first | exact HB.out | apply bA | apply pN | apply au | refine bS ?_ lJ.out) | exact HB.out)⟩
       ·rw [if_neg c24] at H
        have y7 : (av == 0) = false := beq_eq_false_iff_ne.mpr c24
        have DK : (av != 0) = true := bne_iff_ne.mpr c24
        obtain rfl := Option.some.inj H
        have := cz bn.out 0 rfl
        have := cz bn.out 1 rfl
        have := cz bn.out 2 rfl
        have := cz bn.out 3 rfl
        have := cz bn.out 4 rfl
        have := fz bn.out 0
        have := fz bn.out 1
        have := fz bn.out 2
        have := fz bn.out 3
        have := fz bn.out 4
        go_wp2
        go_ret
        exact ⟨by first | rfl | (simp [aQ, aR] <;> rfl) | (simp [*, aQ, aR] <;> rfl), by repeat (first | (with_reducible first | exact HB.out | apply bA | apply pN | apply au | refine bS ?_ lJ.out) | exact HB.out)⟩
      ·rw [if_neg c23] at H
       have uz : (ah == 4) = false := beq_eq_false_iff_ne.mpr c23
       have wV : (ah != 4) = true := bne_iff_ne.mpr c23
       by_cases c31 : ah = 1
       ·rw [if_pos c31] at H
        have ZT : (ah == 1) = true := beq_iff_eq.mpr c31
        have ZU : (ah != 1) = false := bne_eq_false_iff_eq.mpr c31
        clear c31
        by_cases c32 : av = 0
        ·rw [if_pos c32] at H
         have Li : (av == 0) = true := beq_iff_eq.mpr c32
         have Lj : (av != 0) = false := bne_eq_false_iff_eq.mpr c32
         clear c32
         obtain rfl := Option.some.inj H
         have := cz bn.out 0 rfl
         have := cz bn.out 1 rfl
         have := cz bn.out 2 rfl
         have := cz bn.out 3 rfl
         have := cz bn.out 4 rfl
         have := fz bn.out 0
         have := fz bn.out 1
         have := fz bn.out 2
         have := fz bn.out 3
         have := fz bn.out 4
         go_wp2
         go_ret
         exact ⟨by first | rfl | (simp [aQ, aR] <;> rfl) | (simp [*, aQ, aR] <;> rfl), by repeat (first | (with_reducible first | exact HB.out | apply bA | apply pN | apply au | refine bS ?_ lJ.out) | exact HB.out)⟩
        ·rw [if_neg c32] at H
         have Li : (av == 0) = false := beq_eq_false_iff_ne.mpr c32
         have Lj : (av != 0) = true := bne_iff_ne.mpr c32
         obtain rfl := Option.some.inj H
         have := cz bn.out 0 rfl
         have := cz bn.out 1 rfl
         have := cz bn.out 2 rfl
         have := cz bn.out 3 rfl
         have := cz bn.out 4 rfl
         have := fz bn.out 0
         have := fz bn.out 1
         have := fz bn.out 2
         have := fz bn.out 3
         have := fz bn.out 4
         go_wp2
         go_ret
         exact ⟨by first | rfl | (simp [aQ, aR] <;> rfl) | (simp [*, aQ, aR] <;> rfl), by repeat (first | (with_reducible first | exact HB.out | apply bA | apply pN | apply au | refine bS ?_ lJ.out) | exact HB.out)⟩
       ·rw [if_neg c31] at H
        have ZT : (ah == 1) = false := beq_eq_false_iff_ne.mpr c31
        have ZU : (ah != 1) = true := bne_iff_ne.mpr c31
        obtain rfl := Option.some.inj H
        have := cz bn.out 0 rfl
        have := cz bn.out 1 rfl
        have := cz bn.out 2 rfl
        have := cz bn.out 3 rfl
        have := cz bn.out 4 rfl
        have := fz bn.out 0
        have := fz bn.out 1
        have := fz bn.out 2
        have := fz bn.out 3
        have := fz bn.out 4
        go_wp2
        go_ret
        exact ⟨by first | rfl | (simp [aQ, aR] <;> rfl) | (simp [*, aQ, aR] <;> rfl), by repeat (first | (with_reducible first | exact HB.out | apply bA | apply pN | apply au | refine bS ?_ lJ.out) | exact HB.out)⟩
noncomputable def l5.f (k : Nat) (ah : Int) (av : Int) (aG : ByteArray) (aJ : Bool) (aI : Bool) : Option (Int) := (dN.f k ah av aG aJ aI).bind fun t236 => (if t236 = true then (some 0) else (some 1))
theorem l5.calls (k : Nat) (ah : Int) (av : Int) (aG : ByteArray) (aJ : Bool) (aI : Bool) (r : Int) (w : World) (h : l5.f k ah av aG aJ aI = some r) :
 Calls Tryz.prog 18 #[.agg #[.int .i64 ah, .int .i64 av, .string aG, .bool aJ, .bool aI]] w fun e w' => e = .returned (.int .i64 r) ∧ Below w.heap.size w w' := by
 have lI := Tryz.underlying29
 have HB := am (Below.refl w.heap.size w)
 have H : ((dN.f k ah av aG aJ aI).bind fun t236 => (if t236 = true then (some 0) else (some 1))) = some r := h
 clear h
 replace H := Option.bind_eq_some_iff.mp H
 obtain ⟨t236, f_, H⟩ := H
 replace H : (if t236 = true then (some 0) else (some 1)) = some r := H
 have A2 := am f_
 clear f_
 by_cases c3 : t236 = true
 ·subst c3
  have H1 : (some 0) = some r := by rw [if_pos rfl] at H; exact H
  clear H
  have H := H1
  clear H1
  obtain rfl := Option.some.inj H
  go_enter Tryz.func18, Tryz.ntmps18
  go_wp2_with (first | ((with_reducible refine cK (N := 1) rfl ?_); refine cO ?hg (N := 1) ?hd (cs := #[.int .i64 ah, .int .i64 av, .string aG, .bool aJ, .bool aI]) (t := 29) ?hr ?_; (case hd => rfl); (case hg => rfl); (case hr => first | (go_simp; done) | (go_simp; rfl)); intro y8 hg w4 aV hb; have ay := am (bP (by repeat (first | (with_reducible first | exact HB.out | apply bA | apply pN | apply au) | exact HB.out)) hb); have aA := am (aV); have aK := am ((by rw [hg]; exact (bZ (by repeat (first | (with_reducible first | exact HB.out | apply bA | apply pN | apply au) | exact HB.out))) : w.heap.size ≤ y8)); have aU := am ((by rw [hg]; exact (bZ (by repeat (first | (with_reducible first | exact HB.out | apply bA | apply pN | apply au) | exact HB.out))) : w.heap.size ≤ y8)); clear HB; have HB := ay; have iO := aA; have ZV := aK; have DL := aU; clear ay aA aK aU; clear hb aV hg; have := cz iO.out 0 rfl; have := cz iO.out 1 rfl; have := cz iO.out 2 rfl; have := cz iO.out 3 rfl; have := cz iO.out 4 rfl; have := fz iO.out 0; have := fz iO.out 1; have := fz iO.out 2; have := fz iO.out 3; have := fz iO.out 4) | ((with_reducible refine bY (f := 42) rfl ?_); refine b_ (some 4) rfl rfl Tryz.func42 (by kernel_rfl) rfl #[.agg #[.int .i64 ah, .int .i64 av, .string aG, .bool aJ, .bool aI]] rfl (by (try simp only [List.map_toArray, List.map_cons, List.map_nil]); first | done | rfl | (simp only [List.length_drop, List.length_take]; rfl)) ?_; (with_reducible refine (dN.calls k ah av aG aJ aI true _ A2.out).mono ?_); rintro e w6 ⟨rfl, hb⟩; refine ⟨_, rfl, ?_⟩; have ay := am (kB (g := y8) (o := .cells #[.int .i64 ah, .int .i64 av, .string aG, .bool aJ, .bool aI] 29 (0, 0)) (by (with_reducible repeat (first | apply kN | apply kD | apply kA)); exact iO.out) hb); have aA := am (bP (by repeat (first | (with_reducible first | exact HB.out | apply bA | apply pN | apply au | refine bS ?_ DL.out) | exact HB.out)) hb); clear iO; clear HB; have iO := ay; have HB := aA; clear ay aA; (try clear hb); (try clear hb2); (try clear hk); (try clear hi)))
  go_ret
  exact ⟨by first | rfl | (simp [aQ, aR] <;> rfl) | (simp [*, aQ, aR] <;> rfl), by repeat (first | (with_reducible first | exact HB.out | apply bA | apply pN | apply au | refine bS ?_ DL.out) | exact HB.out)⟩
 ·replace c3 := Bool.eq_false_iff.mpr c3
  subst c3
  have H1 : (some 1) = some r := by rw [if_neg (show ¬ (false = true) by decide)] at H; exact H
  clear H
  have H := H1
  clear H1
  obtain rfl := Option.some.inj H
  go_enter Tryz.func18, Tryz.ntmps18
  go_wp2_with (first | ((with_reducible refine cK (N := 1) rfl ?_); refine cO ?hg (N := 1) ?hd (cs := #[.int .i64 ah, .int .i64 av, .string aG, .bool aJ, .bool aI]) (t := 29) ?hr ?_; (case hd => rfl); (case hg => rfl); (case hr => first | (go_simp; done) | (go_simp; rfl)); intro y8 hg w7 aV hb; have ay := am (bP (by repeat (first | (with_reducible first | exact HB.out | apply bA | apply pN | apply au) | exact HB.out)) hb); have aA := am (aV); have aK := am ((by rw [hg]; exact (bZ (by repeat (first | (with_reducible first | exact HB.out | apply bA | apply pN | apply au) | exact HB.out))) : w.heap.size ≤ y8)); have aU := am ((by rw [hg]; exact (bZ (by repeat (first | (with_reducible first | exact HB.out | apply bA | apply pN | apply au) | exact HB.out))) : w.heap.size ≤ y8)); clear HB; have HB := ay; have iO := aA; have ZV := aK; have DL := aU; clear ay aA aK aU; clear hb aV hg; have := cz iO.out 0 rfl; have := cz iO.out 1 rfl; have := cz iO.out 2 rfl; have := cz iO.out 3 rfl; have := cz iO.out 4 rfl; have := fz iO.out 0; have := fz iO.out 1; have := fz iO.out 2; have := fz iO.out 3; have := fz iO.out 4) | ((with_reducible refine bY (f := 42) rfl ?_); refine b_ (some 4) rfl rfl Tryz.func42 (by kernel_rfl) rfl #[.agg #[.int .i64 ah, .int .i64 av, .string aG, .bool aJ, .bool aI]] rfl (by (try simp only [List.map_toArray, List.map_cons, List.map_nil]); first | done | rfl | (simp only [List.length_drop, List.length_take]; rfl)) ?_; (with_reducible refine (dN.calls k ah av aG aJ aI false _ A2.out).mono ?_); rintro e w9 ⟨rfl, hb⟩; refine ⟨_, rfl, ?_⟩; have ay := am (kB (g := y8) (o := .cells #[.int .i64 ah, .int .i64 av, .string aG, .bool aJ, .bool aI] 29 (0, 0)) (by (with_reducible repeat (first | apply kN | apply kD | apply kA)); exact iO.out) hb); have aA := am (bP (by repeat (first | (with_reducible first | exact HB.out | apply bA | apply pN | apply au | refine bS ?_ DL.out) | exact HB.out)) hb); clear iO; clear HB; have iO := ay; have HB := aA; clear ay aA; (try clear hb); (try clear hb2); (try clear hk); (try clear hi)))
  go_ret
  exact ⟨by first | rfl | (simp [aQ, aR] <;> rfl) | (simp [*, aQ, aR] <;> rfl), by repeat (first | (with_reducible first | exact HB.out | apply bA | apply pN | apply au | refine bS ?_ DL.out) | exact HB.out)⟩
noncomputable def wQ.f (ah : Int) (av : Int) (aG : ByteArray) (aJ : Bool) (aI : Bool) : Option (Bool) := if ah = 2 then (if aJ = true then (some false) else (some (!aI))) else (if ah = 3 then (if aJ = true then (some false) else (some (!aI))) else (some false))
theorem wQ.calls (ah : Int) (av : Int) (aG : ByteArray) (aJ : Bool) (aI : Bool) (r : Bool) (w : World) (h : wQ.f ah av aG aJ aI = some r) :
 Calls Tryz.prog 19 #[.agg #[.int .i64 ah, .int .i64 av, .string aG, .bool aJ, .bool aI]] w fun e w' => e = .returned (.bool r) ∧ Below w.heap.size w w' := by
 have lI := Tryz.underlying29
 have HB := am (Below.refl w.heap.size w)
 have H : (if ah = 2 then (if aJ = true then (some false) else (some (!aI))) else (if ah = 3 then (if aJ = true then (some false) else (some (!aI))) else (some false))) = some r := h
 clear h
 by_cases c2 : ah = 2
 ·rw [if_pos c2] at H
  have iN : (ah == 2) = true := beq_iff_eq.mpr c2
  have nM : (ah != 2) = false := bne_eq_false_iff_eq.mpr c2
  clear c2
  by_cases c3 : aJ = true
  ·subst c3
   have H1 : (some false) = some r := by rw [if_pos rfl] at H; exact H
   clear H
   have H := H1
   clear H1
   obtain rfl := Option.some.inj H
   go_enter Tryz.func19, Tryz.ntmps19
   go_wp2_with (first | ((with_reducible refine cK (N := 1) rfl ?_); refine cO ?hg (N := 1) ?hd (cs := #[.int .i64 ah, .int .i64 av, .string aG, .bool true, .bool aI]) (t := 29) ?hr ?_; (case hd => rfl); (case hg => rfl); (case hr => first | (go_simp; done) | (go_simp; rfl)); intro nN hg w4 aV hb; have ay := am (bP (by repeat (first | (with_reducible first | exact HB.out | apply bA | apply pN | apply au) | exact HB.out)) hb); have aA := am (aV); have aK := am ((by rw [hg]; exact (bZ (by repeat (first | (with_reducible first | exact HB.out | apply bA | apply pN | apply au) | exact HB.out))) : w.heap.size ≤ nN)); have aU := am ((by rw [hg]; exact (bZ (by repeat (first | (with_reducible first | exact HB.out | apply bA | apply pN | apply au) | exact HB.out))) : w.heap.size ≤ nN)); clear HB; have HB := ay; have eB := aA; have GA := aK; have uD := aU; clear ay aA aK aU; clear hb aV hg; have := cz eB.out 0 rfl; have := cz eB.out 1 rfl; have := cz eB.out 2 rfl; have := cz eB.out 3 rfl; have := cz eB.out 4 rfl; have := fz eB.out 0; have := fz eB.out 1; have := fz eB.out 2; have := fz eB.out 3; have := fz eB.out 4))
   go_ret
   exact ⟨by first | rfl | (simp [aQ, aR] <;> rfl) | (simp [*, aQ, aR] <;> rfl), by repeat (first | (with_reducible first | exact HB.out | apply bA | apply pN | apply au | refine bS ?_ uD.out) | exact HB.out)⟩
  ·replace c3 := Bool.eq_false_iff.mpr c3
   subst c3
   have H1 : (some (!aI)) = some r := by rw [if_neg (show ¬ (false = true) by decide)] at H; exact H
   clear H
   have H := H1
   clear H1
   obtain rfl := Option.some.inj H
   go_enter Tryz.func19, Tryz.ntmps19
   go_wp2_with (first | ((with_reducible refine cK (N := 1) rfl ?_); refine cO ?hg (N := 1) ?hd (cs := #[.int .i64 ah, .int .i64 av, .string aG, .bool false, .bool aI]) (t := 29) ?hr ?_; (case hd => rfl); (case hg => rfl); (case hr => first | (go_simp; done) | (go_simp; rfl)); intro nN hg w6 aV hb; have ay := am (bP (by repeat (first | (with_reducible first | exact HB.out | apply bA | apply pN | apply au) | exact HB.out)) hb); have aA := am (aV); have aK := am ((by rw [hg]; exact (bZ (by repeat (first | (with_reducible first | exact HB.out | apply bA | apply pN | apply au) | exact HB.out))) : w.heap.size ≤ nN)); have aU := am ((by rw [hg]; exact (bZ (by repeat (first | (with_reducible first | exact HB.out | apply bA | apply pN | apply au) | exact HB.out))) : w.heap.size ≤ nN)); clear HB; have HB := ay; have eB := aA; have GA := aK; have uD := aU; clear ay aA aK aU; clear hb aV hg; have := cz eB.out 0 rfl; have := cz eB.out 1 rfl; have := cz eB.out 2 rfl; have := cz eB.out 3 rfl; have := cz eB.out 4 rfl; have := fz eB.out 0; have := fz eB.out 1; have := fz eB.out 2; have := fz eB.out 3; have := fz eB.out 4))
   go_ret
   exact ⟨by first | rfl | (simp [aQ, aR] <;> rfl) | (simp [*, aQ, aR] <;> rfl), by repeat (first | (with_reducible first | exact HB.out | apply bA | apply pN | apply au | refine bS ?_ uD.out) | exact HB.out)⟩
 ·rw [if_neg c2] at H
  have iN : (ah == 2) = false := beq_eq_false_iff_ne.mpr c2
  have nM : (ah != 2) = true := bne_iff_ne.mpr c2
  by_cases c8 : ah = 3
  ·rw [if_pos c8] at H
   have l8 : (ah == 3) = true := beq_iff_eq.mpr c8
   have l9 : (ah != 3) = false := bne_eq_false_iff_eq.mpr c8
   clear c8
   by_cases c9 : aJ = true
   ·subst c9
    have H1 : (some false) = some r := by rw [if_pos rfl] at H; exact H
    clear H
    have H := H1
    clear H1
    obtain rfl := Option.some.inj H
    go_enter Tryz.func19, Tryz.ntmps19
    go_wp2_with (first | ((with_reducible refine cK (N := 1) rfl ?_); refine cO ?hg (N := 1) ?hd (cs := #[.int .i64 ah, .int .i64 av, .string aG, .bool true, .bool aI]) (t := 29) ?hr ?_; (case hd => rfl); (case hg => rfl); (case hr => first | (go_simp; done) | (go_simp; rfl)); intro nN hg o7 aV hb; have ay := am (bP (by repeat (first | (with_reducible first | exact HB.out | apply bA | apply pN | apply au) | exact HB.out)) hb); have aA := am (aV); have aK := am ((by rw [hg]; exact (bZ (by repeat (first | (with_reducible first | exact HB.out | apply bA | apply pN | apply au) | exact HB.out))) : w.heap.size ≤ nN)); have aU := am ((by rw [hg]; exact (bZ (by repeat (first | (with_reducible first | exact HB.out | apply bA | apply pN | apply au) | exact HB.out))) : w.heap.size ≤ nN)); clear HB; have HB := ay; have eB := aA; have GA := aK; have uD := aU; clear ay aA aK aU; clear hb aV hg; have := cz eB.out 0 rfl; have := cz eB.out 1 rfl; have := cz eB.out 2 rfl; have := cz eB.out 3 rfl; have := cz eB.out 4 rfl; have := fz eB.out 0; have := fz eB.out 1; have := fz eB.out 2; have := fz eB.out 3; have := fz eB.out 4))
    go_ret
    exact ⟨by first | rfl | (simp [aQ, aR] <;> rfl) | (simp [*, aQ, aR] <;> rfl), by repeat (first | (with_reducible first | exact HB.out | apply bA | apply pN | apply au | refine bS ?_ uD.out) | exact HB.out)⟩
   ·replace c9 := Bool.eq_false_iff.mpr c9
    subst c9
    have H1 : (some (!aI)) = some r := by rw [if_neg (show ¬ (false = true) by decide)] at H; exact H
    clear H
    have H := H1
    clear H1
    obtain rfl := Option.some.inj H
    go_enter Tryz.func19, Tryz.ntmps19
    go_wp2_with (first | ((with_reducible refine cK (N := 1) rfl ?_); refine cO ?hg (N := 1) ?hd (cs := #[.int .i64 ah, .int .i64 av, .string aG, .bool false, .bool aI]) (t := 29) ?hr ?_; (case hd => rfl); (case hg => rfl); (case hr => first | (go_simp; done) | (go_simp; rfl)); intro nN hg uE aV hb; have ay := am (bP (by repeat (first | (with_reducible first | exact HB.out | apply bA | apply pN | apply au) | exact HB.out)) hb); have aA := am (aV); have aK := am ((by rw [hg]; exact (bZ (by repeat (first | (with_reducible first | exact HB.out | apply bA | apply pN | apply au) | exact HB.out))) : w.heap.size ≤ nN)); have aU := am ((by rw [hg]; exact (bZ (by repeat (first | (with_reducible first | exact HB.out | apply bA | apply pN | apply au) | exact HB.out))) : w.heap.size ≤ nN)); clear HB; have HB := ay; have eB := aA; have GA := aK; have uD := aU; clear ay aA aK aU; clear hb aV hg; have := cz eB.out 0 rfl; have := cz eB.out 1 rfl; have := cz eB.out 2 rfl; have := cz eB.out 3 rfl; have := cz eB.out 4 rfl; have := fz eB.out 0; have := fz eB.out 1; have := fz eB.out 2; have := fz eB.out 3; have := fz eB.out 4))
    go_ret
    exact ⟨by first | rfl | (simp [aQ, aR] <;> rfl) | (simp [*, aQ, aR] <;> rfl), by repeat (first | (with_reducible first | exact HB.out | apply bA | apply pN | apply au | refine bS ?_ uD.out) | exact HB.out)⟩
  ·rw [if_neg c8] at H
   have l8 : (ah == 3) = false := beq_eq_false_iff_ne.mpr c8
   have l9 : (ah != 3) = true := bne_iff_ne.mpr c8
   obtain rfl := Option.some.inj H
   go_enter Tryz.func19, Tryz.ntmps19
   go_wp2_with (first | ((with_reducible refine cK (N := 1) rfl ?_); refine cO ?hg (N := 1) ?hd (cs := #[.int .i64 ah, .int .i64 av, .string aG, .bool aJ, .bool aI]) (t := 29) ?hr ?_; (case hd => rfl); (case hg => rfl); (case hr => first | (go_simp; done) | (go_simp; rfl)); intro nN hg y9 aV hb; have ay := am (bP (by repeat (first | (with_reducible first | exact HB.out | apply bA | apply pN | apply au) | exact HB.out)) hb); have aA := am (aV); have aK := am ((by rw [hg]; exact (bZ (by repeat (first | (with_reducible first | exact HB.out | apply bA | apply pN | apply au) | exact HB.out))) : w.heap.size ≤ nN)); have aU := am ((by rw [hg]; exact (bZ (by repeat (first | (with_reducible first | exact HB.out | apply bA | apply pN | apply au) | exact HB.out))) : w.heap.size ≤ nN)); clear HB; have HB := ay; have eB := aA; have GA := aK; have uD := aU; clear ay aA aK aU; clear hb aV hg; have := cz eB.out 0 rfl; have := cz eB.out 1 rfl; have := cz eB.out 2 rfl; have := cz eB.out 3 rfl; have := cz eB.out 4 rfl; have := fz eB.out 0; have := fz eB.out 1; have := fz eB.out 2; have := fz eB.out 3; have := fz eB.out 4))
   go_ret
   exact ⟨by first | rfl | (simp [aQ, aR] <;> rfl) | (simp [*, aQ, aR] <;> rfl), by repeat (first | (with_reducible first | exact HB.out | apply bA | apply pN | apply au | refine bS ?_ uD.out) | exact HB.out)⟩
noncomputable def jc.l0 : Nat → Int → Int → Bool → Int → Option (Int)
 | 0, _, _, _, _ => none
 | k + 1, x3, x4, ZW, RH => if x4 < RH then (jc.l0 k (wrap64 (x3 * 2)) (wrap64 (x4 + 1)) ZW RH) else (some x3)
noncomputable def jc.f (k : Nat) (ah : Bool) (av : Int) : Option (Int) := jc.l0 k 1 0 ah av
theorem jc.gy : ∀ k, (∀ y0 y1 y2 y3, aN (jc.l0 k y0 y1 y2 y3) (jc.l0 (k + 1) y0 y1 y2 y3))
 | 0 => fun _ _ _ _ r h => by simp [jc.l0] at h
 | k + 1 => by
  have cZ := jc.gy k
  ·intro y0 y1 y2 y3
   unfold jc.l0
   repeat' first
   | (with_reducible exact cZ _ _ _ _)
   | (with_reducible exact aN.refl _)
   | (with_reducible exact aN.none _)
   | (with_reducible refine aN.ite ?_ ?_)
   | (with_reducible refine aN.bind ?_ (fun _ => ?_))
   | exact cZ _ _ _ _
   | exact aN.none _
   | refine aN.ite ?_ ?_
   | refine aN.bind ?_ (fun _ => ?_)
theorem jc.mono : ∀ a0 a1 k, aN (jc.f k a0 a1) (jc.f (k + 1) a0 a1) := by
 intro a0 a1 k
 have cZ := jc.gy k
 unfold jc.f
 repeat' first
  | (with_reducible exact cZ _ _ _ _)
  | (with_reducible exact aN.refl _)
  | (with_reducible exact aN.none _)
  | (with_reducible refine aN.ite ?_ ?_)
  | (with_reducible refine aN.bind ?_ (fun _ => ?_))
  | exact cZ _ _ _ _
  | exact aN.none _
  | refine aN.ite ?_ ?_
  | refine aN.bind ?_ (fun _ => ?_)
theorem jc.calls (k : Nat) (ah : Bool) (av : Int) (r : Int) (w : World) (h : jc.f k ah av = some r) :
 Calls Tryz.prog 74 #[.agg #[.bool ah, .int .i64 av]] w fun e w' => e = .returned (.int .i64 r) ∧ Below w.heap.size w w' := by
 have mg := Tryz.underlying48
 have HB := am (Below.refl w.heap.size w)
 have H : (jc.l0 k 1 0 ah av) = some r := h
 clear h
 have H' := am H
 clear H
 go_enter Tryz.func74, Tryz.ntmps74
 go_wp2_with (first | ((with_reducible refine cK (N := 1) rfl ?_); refine cO ?hg (N := 1) ?hd (cs := #[.bool ah, .int .i64 av]) (t := 48) ?hr ?_; (case hd => rfl); (case hg => rfl); (case hr => first | (go_simp; done) | (go_simp; rfl)); intro Ll hg w2 aV hb; have ay := am (bP (by repeat (first | (with_reducible first | exact HB.out | apply bA | apply pN | apply au) | exact HB.out)) hb); have aA := am (aV); have aK := am ((by rw [hg]; exact (bZ (by repeat (first | (with_reducible first | exact HB.out | apply bA | apply pN | apply au) | exact HB.out))) : w.heap.size ≤ Ll)); have aU := am ((by rw [hg]; exact (bZ (by repeat (first | (with_reducible first | exact HB.out | apply bA | apply pN | apply au) | exact HB.out))) : w.heap.size ≤ Ll)); clear HB; have HB := ay; have qc := aA; have ahC := aK; have Lm := aU; clear ay aA aK aU; clear hb aV hg))
 go_loopg [3, 4] k (fun kq v3 v4 w' => ∃ (GD : Int) (dD : Int), v3 = .int .i64 GD ∧ v4 = .int .i64 dD ∧ bI (jc.l0 kq GD dD ah av = some r) ∧ bI (kq ≤ k) ∧ bI (w'.heap[Ll]? = some (.cells #[.bool ah, .int .i64 av] 48 (0, 0))) ∧ bI (Below w.heap.size w w'))
 case atStart => exact ⟨(1), (0), (by first | rfl | (simp; done) | (simp [*]; done)), (by first | rfl | (simp; done) | (simp [*]; done)), H', ⟨Nat.le_refl _⟩, ⟨by (with_reducible repeat (first | apply kN | apply kD | apply kA)); exact qc.out⟩, ⟨by repeat (first | (with_reducible first | exact HB.out | apply bA | apply pN | apply au | refine bS ?_ Lm.out) | exact HB.out)⟩⟩
 case round =>
  clear H'
  try clear p2
  obtain ⟨GD, dD, rfl, rfl, HA, eu, qc, HB⟩ := hrel
  cases gk with
  | zero => exact absurd HA.out (by simp [jc.l0])
  | succ k1 =>
   have H := HA.out
   clear HA
   simp only [jc.l0] at H
   by_cases c3 : dD < av
   ·rw [if_pos c3] at H
    have gH : decide (dD < av) = true := decide_eq_true c3
    clear c3
    have H' := am H
    clear H
    have := cz qc.out 0 rfl
    have := cz qc.out 1 rfl
    have := fz qc.out 0
    have := fz qc.out 1
    go_wp2
    go_roundg k1
    case measure => have := eu.out; omega
    case rel => exact ⟨(wrap64 (GD * 2)), (wrap64 (dD + 1)), (by first | rfl | (simp; done) | (simp [*]; done)), (by first | rfl | (simp; done) | (simp [*]; done)), H', ⟨by have := eu.out; omega⟩, ⟨by (with_reducible repeat (first | apply kN | apply kD | apply kA)); exact qc.out⟩, ⟨by repeat (first | (with_reducible first | exact HB.out | apply bA | apply pN | apply au | refine bS ?_ Lm.out) | exact HB.out)⟩⟩
   ·rw [if_neg c3] at H
    have gH : decide (dD < av) = false := decide_eq_false c3
    clear c3
    obtain rfl := Option.some.inj H
    have := cz qc.out 0 rfl
    have := cz qc.out 1 rfl
    have := fz qc.out 0
    have := fz qc.out 1
    go_wp2
    go_ret
    exact ⟨by first | rfl | (simp [aQ, aR] <;> rfl) | (simp [*, aQ, aR] <;> rfl), by repeat (first | (with_reducible first | exact HB.out | apply bA | apply pN | apply au | refine bS ?_ Lm.out) | exact HB.out)⟩
noncomputable def pY.f (k : Nat) (ah : Bool) (av : Int) : Option (Int × Int) := (jc.f k ah av).bind fun t240 => (if ah = true then (some (wrap64 (-(wrap64 (Int.tdiv t240 2))), wrap64 ((wrap64 (Int.tdiv t240 2)) - 1))) else (some (0, wrap64 (t240 - 1))))
theorem pY.mono : ∀ a0 a1 k, aN (pY.f k a0 a1) (pY.f (k + 1) a0 a1) := by
 intro a0 a1 k
 unfold pY.f
 repeat' first
  | (with_reducible exact jc.mono _ _ _)
  | (with_reducible exact aN.refl _)
  | (with_reducible exact aN.none _)
  | (with_reducible refine aN.ite ?_ ?_)
  | (with_reducible refine aN.bind ?_ (fun _ => ?_))
  | exact jc.mono _ _ _
  | exact aN.none _
  | refine aN.ite ?_ ?_
  | refine aN.bind ?_ (fun _ => ?_)
theorem pY.calls (k : Nat) (ah : Bool) (av : Int) (r1 : Int) (r2 : Int) (w : World) (h : pY.f k ah av = some (r1, r2)) :
 Calls Tryz.prog 43 #[.agg #[.bool ah, .int .i64 av]] w fun e w' => e = .returned (.tuple #[.int .i64 r1, .int .i64 r2]) ∧ Below w.heap.size w w' := by
 have mg := Tryz.underlying48
 have HB := am (Below.refl w.heap.size w)
 have H : ((jc.f k ah av).bind fun t240 => (if ah = true then (some (wrap64 (-(wrap64 (Int.tdiv t240 2))), wrap64 ((wrap64 (Int.tdiv t240 2)) - 1))) else (some (0, wrap64 (t240 - 1))))) = some (r1, r2) := h
 clear h
 replace H := Option.bind_eq_some_iff.mp H
 obtain ⟨t240, f_, H⟩ := H
 replace H : (if ah = true then (some (wrap64 (-(wrap64 (Int.tdiv t240 2))), wrap64 ((wrap64 (Int.tdiv t240 2)) - 1))) else (some (0, wrap64 (t240 - 1)))) = some (r1, r2) := H
 have A2 := am f_
 clear f_
 by_cases c3 : ah = true
 ·subst c3
  have H1 : (some (wrap64 (-(wrap64 (Int.tdiv t240 2))), wrap64 ((wrap64 (Int.tdiv t240 2)) - 1))) = some (r1, r2) := by rw [if_pos rfl] at H; exact H
  clear H
  have H := H1
  clear H1
  simp only [Option.some.injEq, Prod.mk.injEq] at H
  obtain ⟨rfl, rfl⟩ := H
  go_enter Tryz.func43, Tryz.ntmps43
  go_wp2_with (first | ((with_reducible refine cK (N := 1) rfl ?_); refine cO ?hg (N := 1) ?hd (cs := #[.bool true, .int .i64 av]) (t := 48) ?hr ?_; (case hd => rfl); (case hg => rfl); (case hr => first | (go_simp; done) | (go_simp; rfl)); intro za hg w4 aV hb; have ay := am (bP (by repeat (first | (with_reducible first | exact HB.out | apply bA | apply pN | apply au) | exact HB.out)) hb); have aA := am (aV); have aK := am ((by rw [hg]; exact (bZ (by repeat (first | (with_reducible first | exact HB.out | apply bA | apply pN | apply au) | exact HB.out))) : w.heap.size ≤ za)); have aU := am ((by rw [hg]; exact (bZ (by repeat (first | (with_reducible first | exact HB.out | apply bA | apply pN | apply au) | exact HB.out))) : w.heap.size ≤ za)); clear HB; have HB := ay; have jy := aA; have ZX := aK; have DN := aU; clear ay aA aK aU; clear hb aV hg; have := cz jy.out 0 rfl; have := cz jy.out 1 rfl; have := fz jy.out 0; have := fz jy.out 1) | ((with_reducible refine bY (f := 74) rfl ?_); refine b_ (some 6) rfl rfl Tryz.func74 (by kernel_rfl) rfl #[.agg #[.bool true, .int .i64 av]] rfl (by (try simp only [List.map_toArray, List.map_cons, List.map_nil]); first | done | rfl | (simp only [List.length_drop, List.length_take]; rfl)) ?_; (with_reducible refine (jc.calls k true av t240 _ A2.out).mono ?_); rintro e w6 ⟨rfl, hb⟩; refine ⟨_, rfl, ?_⟩; have ay := am (kB (g := za) (o := .cells #[.bool true, .int .i64 av] 48 (0, 0)) (by (with_reducible repeat (first | apply kN | apply kD | apply kA)); exact jy.out) hb); have aA := am (bP (by repeat (first | (with_reducible first | exact HB.out | apply bA | apply pN | apply au | refine bS ?_ DN.out) | exact HB.out)) hb); clear jy; clear HB; have jy := ay; have HB := aA; clear ay aA; (try clear hb); (try clear hb2); (try clear hk); (try clear hi); have := cz jy.out 0 rfl; have := cz jy.out 1 rfl; have := fz jy.out 0; have := fz jy.out 1))
  go_ret2
  exact ⟨by first | rfl | (simp [aQ, aR] <;> rfl) | (simp [*, aQ, aR] <;> rfl), by repeat (first | (with_reducible first | exact HB.out | apply bA | apply pN | apply au | refine bS ?_ DN.out) | exact HB.out)⟩
 ·replace c3 := Bool.eq_false_iff.mpr c3
  subst c3
  have H1 : (some (0, wrap64 (t240 - 1))) = some (r1, r2) := by rw [if_neg (show ¬ (false = true) by decide)] at H; exact H
  clear H
  have H := H1
  clear H1
  simp only [Option.some.injEq, Prod.mk.injEq] at H
  obtain ⟨rfl, rfl⟩ := H
  go_enter Tryz.func43, Tryz.ntmps43
  go_wp2_with (first | ((with_reducible refine cK (N := 1) rfl ?_); refine cO ?hg (N := 1) ?hd (cs := #[.bool false, .int .i64 av]) (t := 48) ?hr ?_; (case hd => rfl); (case hg => rfl); (case hr => first | (go_simp; done) | (go_simp; rfl)); intro za hg w8 aV hb; have ay := am (bP (by repeat (first | (with_reducible first | exact HB.out | apply bA | apply pN | apply au) | exact HB.out)) hb); have aA := am (aV); have aK := am ((by rw [hg]; exact (bZ (by repeat (first | (with_reducible first | exact HB.out | apply bA | apply pN | apply au) | exact HB.out))) : w.heap.size ≤ za)); have aU := am ((by rw [hg]; exact (bZ (by repeat (first | (with_reducible first | exact HB.out | apply bA | apply pN | apply au) | exact HB.out))) : w.heap.size ≤ za)); clear HB; have HB := ay; have jy := aA; have ZX := aK; have DN := aU; clear ay aA aK aU; clear hb aV hg; have := cz jy.out 0 rfl; have := cz jy.out 1 rfl; have := fz jy.out 0; have := fz jy.out 1) | ((with_reducible refine bY (f := 74) rfl ?_); refine b_ (some 6) rfl rfl Tryz.func74 (by kernel_rfl) rfl #[.agg #[.bool false, .int .i64 av]] rfl (by (try simp only [List.map_toArray, List.map_cons, List.map_nil]); first | done | rfl | (simp only [List.length_drop, List.length_take]; rfl)) ?_; (with_reducible refine (jc.calls k false av t240 _ A2.out).mono ?_); rintro e o7 ⟨rfl, hb⟩; refine ⟨_, rfl, ?_⟩; have ay := am (kB (g := za) (o := .cells #[.bool false, .int .i64 av] 48 (0, 0)) (by (with_reducible repeat (first | apply kN | apply kD | apply kA)); exact jy.out) hb); have aA := am (bP (by repeat (first | (with_reducible first | exact HB.out | apply bA | apply pN | apply au | refine bS ?_ DN.out) | exact HB.out)) hb); clear jy; clear HB; have jy := ay; have HB := aA; clear ay aA; (try clear hb); (try clear hb2); (try clear hk); (try clear hi); have := cz jy.out 0 rfl; have := cz jy.out 1 rfl; have := fz jy.out 0; have := fz jy.out 1))
  go_ret2
  exact ⟨by first | rfl | (simp [aQ, aR] <;> rfl) | (simp [*, aQ, aR] <;> rfl), by repeat (first | (with_reducible first | exact HB.out | apply bA | apply pN | apply au | refine bS ?_ DN.out) | exact HB.out)⟩
noncomputable def uo.f (k : Nat) (ah : Bool) (av : Int) (a1 : Int) : Option (Bool) := (pY.f k ah av).bind fun DR => ((kV.f a1 DR.1 DR.2).bind fun t244 => (some t244))
theorem uo.calls (k : Nat) (ah : Bool) (av : Int) (a1 : Int) (r : Bool) (w : World) (h : uo.f k ah av a1 = some r) :
 Calls Tryz.prog 20 #[.agg #[.bool ah, .int .i64 av], .int .i64 a1] w fun e w' => e = .returned (.bool r) ∧ Below w.heap.size w w' := by
 have mg := Tryz.underlying48
 have HB := am (Below.refl w.heap.size w)
 have H : ((pY.f k ah av).bind fun DR => ((kV.f a1 DR.1 DR.2).bind fun t244 => (some t244))) = some r := h
 clear h
 replace H := Option.bind_eq_some_iff.mp H
 obtain ⟨⟨t242, t243⟩, fH, H⟩ := H
 replace H : ((kV.f a1 t242 t243).bind fun t244 => (some t244)) = some r := H
 have A3 := am fH
 clear fH
 replace H := Option.bind_eq_some_iff.mp H
 obtain ⟨t244, kX, H⟩ := H
 replace H : (some t244) = some r := H
 have A4 := am kX
 clear kX
 obtain rfl := Option.some.inj H
 go_enter Tryz.func20, Tryz.ntmps20
 go_wp2_with (first | ((with_reducible refine cK (N := 2) rfl ?_); refine cO ?hg (N := 2) ?hd (cs := #[.bool ah, .int .i64 av]) (t := 48) ?hr ?_; (case hd => rfl); (case hg => rfl); (case hr => first | (go_simp; done) | (go_simp; rfl)); intro Lp hg w5 aV hb; have ay := am (bP (by repeat (first | (with_reducible first | exact HB.out | apply bA | apply pN | apply au) | exact HB.out)) hb); have aA := am (aV); have aK := am ((by rw [hg]; exact (bZ (by repeat (first | (with_reducible first | exact HB.out | apply bA | apply pN | apply au) | exact HB.out))) : w.heap.size ≤ Lp)); have aU := am ((by rw [hg]; exact (bZ (by repeat (first | (with_reducible first | exact HB.out | apply bA | apply pN | apply au) | exact HB.out))) : w.heap.size ≤ Lp)); clear HB; have HB := ay; have ze := aA; have ahD := aK; have RI := aU; clear ay aA aK aU; clear hb aV hg; have := cz ze.out 0 rfl; have := cz ze.out 1 rfl; have := fz ze.out 0; have := fz ze.out 1) | ((with_reducible refine bY (f := 43) rfl ?_); refine b_ (some 9) rfl rfl Tryz.func43 (by kernel_rfl) rfl #[.agg #[.bool ah, .int .i64 av]] rfl (by (try simp only [List.map_toArray, List.map_cons, List.map_nil]); first | done | rfl | (simp only [List.length_drop, List.length_take]; rfl)) ?_; (with_reducible refine (pY.calls k ah av t242 t243 _ A3.out).mono ?_); rintro e w7 ⟨rfl, hb⟩; refine ⟨_, rfl, ?_⟩; have ay := am (kB (g := Lp) (o := .cells #[.bool ah, .int .i64 av] 48 (0, 0)) (by (with_reducible repeat (first | apply kN | apply kD | apply kA)); exact ze.out) hb); have aA := am (bP (by repeat (first | (with_reducible first | exact HB.out | apply bA | apply pN | apply au | refine bS ?_ RI.out) | exact HB.out)) hb); clear ze; clear HB; have ze := ay; have HB := aA; clear ay aA; (try clear hb); (try clear hb2); (try clear hk); (try clear hi)) | ((with_reducible refine bY (f := 44) rfl ?_); refine b_ (some 15) rfl rfl Tryz.func44 (by kernel_rfl) rfl #[.int .i64 a1, .int .i64 t242, .int .i64 t243] rfl (by (try simp only [List.map_toArray, List.map_cons, List.map_nil]); first | done | rfl | (simp only [List.length_drop, List.length_take]; rfl)) ?_; (with_reducible refine (kV.calls a1 t242 t243 t244 _ A4.out).mono ?_); rintro e w' ⟨rfl, ⟨nd, rfl⟩⟩; refine ⟨_, rfl, ?_⟩))
 go_ret
 exact ⟨by first | rfl | (simp [aQ, aR] <;> rfl) | (simp [*, aQ, aR] <;> rfl), by repeat (first | (with_reducible first | exact HB.out | apply bA | apply pN | apply au | refine bS ?_ RI.out) | exact HB.out)⟩
noncomputable def p9.f (ah : Int) (av : Int) (aG : ByteArray) (aJ : Bool) (aI : Bool) : Option (Bool × Int) := some ((ah == 3), av)
theorem p9.calls (ah : Int) (av : Int) (aG : ByteArray) (aJ : Bool) (aI : Bool) (r1 : Bool) (r2 : Int) (w : World) (h : p9.f ah av aG aJ aI = some (r1, r2)) :
 Calls Tryz.prog 21 #[.agg #[.int .i64 ah, .int .i64 av, .string aG, .bool aJ, .bool aI]] w fun e w' => e = .returned (.agg #[.bool r1, .int .i64 r2]) ∧ Below w.heap.size w w' := by
 have lI := Tryz.underlying29
 have mg := Tryz.underlying48
 have HB := am (Below.refl w.heap.size w)
 have H : (some ((ah == 3), av)) = some (r1, r2) := h
 clear h
 simp only [Option.some.injEq, Prod.mk.injEq] at H
 obtain ⟨rfl, rfl⟩ := H
 go_enter Tryz.func21, Tryz.ntmps21
 go_wp2_with (first | ((with_reducible refine cK (N := 1) rfl ?_); refine cO ?hg (N := 1) ?hd (cs := #[.int .i64 ah, .int .i64 av, .string aG, .bool aJ, .bool aI]) (t := 29) ?hr ?_; (case hd => rfl); (case hg => rfl); (case hr => first | (go_simp; done) | (go_simp; rfl)); intro zf hg w2 aV hb; have ay := am (bP (by repeat (first | (with_reducible first | exact HB.out | apply bA | apply pN | apply au) | exact HB.out)) hb); have aA := am (aV); have aK := am ((by rw [hg]; exact (bZ (by repeat (first | (with_reducible first | exact HB.out | apply bA | apply pN | apply au) | exact HB.out))) : w.heap.size ≤ zf)); have aU := am ((by rw [hg]; exact (bZ (by repeat (first | (with_reducible first | exact HB.out | apply bA | apply pN | apply au) | exact HB.out))) : w.heap.size ≤ zf)); clear HB; have HB := ay; have mM := aA; have ahE := aK; have GH := aU; clear ay aA aK aU; clear hb aV hg) | ((with_reducible refine cK (N := 2) rfl ?_); refine cO ?hg (N := 2) ?hd (cs := #[.bool false, .int .i64 0]) (t := 48) ?hr ?_; (case hd => rfl); (case hg => rfl); (case hr => first | (go_simp; done) | (go_simp; rfl)); intro DT hg w3 aV hb; have ay := am (kB (g := zf) (o := .cells #[.int .i64 ah, .int .i64 av, .string aG, .bool aJ, .bool aI] 29 (0, 0)) (by (with_reducible repeat (first | apply kN | apply kD | apply kA)); exact mM.out) hb); have aA := am (bP (by repeat (first | (with_reducible first | exact HB.out | apply bA | apply pN | apply au | refine bS ?_ GH.out) | exact HB.out)) hb); have aK := am (aV); have aU := am ((by rw [hg]; exact (bZ (by repeat (first | (with_reducible first | exact HB.out | apply bA | apply pN | apply au | refine bS ?_ GH.out) | exact HB.out))) : w.heap.size ≤ DT)); have dZ := am ((by rw [hg]; exact (bZ (by repeat (first | (with_reducible first | exact HB.out | apply bA | apply pN | apply au | refine bS ?_ GH.out) | exact HB.out))) : w.heap.size ≤ DT)); have eH := am ((by rw [hg]; exact Nat.ne_of_lt (kL (g := zf) (o := .cells #[.int .i64 ah, .int .i64 av, .string aG, .bool aJ, .bool aI] 29 (0, 0)) (by (with_reducible repeat (first | apply kN | apply kD | apply kA)); exact mM.out)) : zf ≠ DT)); have eO := am ((by rw [hg]; exact Nat.ne_of_gt (kL (g := zf) (o := .cells #[.int .i64 ah, .int .i64 av, .string aG, .bool aJ, .bool aI] 29 (0, 0)) (by (with_reducible repeat (first | apply kN | apply kD | apply kA)); exact mM.out)) : DT ≠ zf)); clear mM; clear HB; have mM := ay; have HB := aA; have DU := aK; have ahF := aU; have ZY := dZ; have Z0 := eH; have Z4 := eO; clear ay aA aK aU dZ eH eO; clear hb aV hg; have Z5 := Z0.out; have Z6 := Z4.out; have := cz mM.out 0 rfl; have := cz mM.out 1 rfl; have := cz mM.out 2 rfl; have := cz mM.out 3 rfl; have := cz mM.out 4 rfl; have := fz mM.out 0; have := fz mM.out 1; have := fz mM.out 2; have := fz mM.out 3; have := fz mM.out 4; have := cz DU.out 0 rfl; have := cz DU.out 1 rfl; have := fz DU.out 0; have := fz DU.out 1))
 refine bodyPost_ret (results_cell_row rfl _ _ DT 48 #[.bool (ah == 3), .int .i64 av] (0, 0) _ rfl (by (with_reducible repeat (first | apply kN | apply kD | apply kA)); refine bX (cs := #[.bool (ah == 3), .int .i64 0]) ?_ 1 _ rfl; (with_reducible repeat (first | apply kN | apply kD | apply kA)); refine bX (cs := #[.bool false, .int .i64 0]) ?_ 0 _ rfl; (with_reducible repeat (first | apply kN | apply kD | apply kA)); exact DU.out) Tryz.underlying48 rfl (by kernel_rfl)) rfl ?_
 exact ⟨by first | rfl | (simp [aQ, aR] <;> rfl) | (simp [*, aQ, aR] <;> rfl), by repeat (first | (with_reducible first | exact HB.out | apply bA | apply pN | apply au | refine bS ?_ GH.out | refine bS ?_ ZY.out) | exact HB.out)⟩
end Go.Proofs.YtgliaoanlhbepaaGreatDoor.Q
