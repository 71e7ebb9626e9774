/- Walks, printed by a program of this session: what each function of the law computes. -/
import Derived.Test.YtgliaoanlhbepaaGreatDoorQ0
import Derived.Test.YtgliaoanlhbepaaGreatDoorQ2
namespace Go.Proofs.YtgliaoanlhbepaaGreatDoor.Q
open Go.RowKit Go.Proofs.bT.eG Go.Proofs.bT.iM Go.Proofs.bT.jd
open Go.Proofs.bT.eG renaming lF → pN, lZ → au, l6 → bA, mZ → bS, m_ → bZ, ng → bP, ni → kN, nk → kD, nu → kA, ny → fz, nA → kB, lH → kL
attribute [local go_sem] nC nD nE nG nH nI nJ nK
set_option maxHeartbeats 8000000
set_option maxRecDepth 100000
set_option linter.unusedVariables false
set_option linter.unusedSimpArgs false
noncomputable def gD.j0 : Nat → ByteArray → Bool → Option (Bool × Int × Int)
 | 0, _, _ => none
 | k + 1, x0, x19 => if x19 = true then (some (false, 0, 2)) else (if 1 ≤ (x0.size : Int) then ((gq.f k (x0.extract 1 x0.size) 10).bind fun zU => (if 0 < (x0.size : Int) then (if zU.2 = 0 then ((gK.f ((bt x0 0) == 105) zU.1).bind fun t118 => (if t118 = 0 then (some (((bt x0 0) == 105), zU.1, 0)) else (some (false, 0, 2)))) else (some (false, 0, 2))) else (none))) else (none))
noncomputable def gD.f (k : Nat) (a0 : ByteArray) : Option (Bool × Int × Int) := if (a0.size : Int) < 2 then (gD.j0 k a0 true) else (if 0 < (a0.size : Int) then (if (bt a0 0) = 117 then (gD.j0 k a0 false) else (gD.j0 k a0 ((bt a0 0) != 105))) else (none))
theorem gD.gy : ∀ k, (∀ y0 y1, aN (gD.j0 k y0 y1) (gD.j0 (k + 1) y0 y1))
 | 0 => fun _ _ r h => by simp [gD.j0] at h
 | k + 1 => by
  have cZ := gD.gy k
  ·intro y0 y1
   unfold gD.j0
   repeat' first
   | (with_reducible exact cZ _ _)
   | (with_reducible exact gq.mono _ _ _)
   | (with_reducible exact aN.refl _)
   | (with_reducible exact aN.none _)
   | (with_reducible refine aN.ite ?_ ?_)
   | (with_reducible refine aN.bind ?_ (fun _ => ?_))
   | exact cZ _ _
   | exact gq.mono _ _ _
   | exact aN.none _
   | refine aN.ite ?_ ?_
   | refine aN.bind ?_ (fun _ => ?_)
theorem gD.mono : ∀ a0 k, aN (gD.f k a0) (gD.f (k + 1) a0) := by
 intro a0 k
 have cZ := gD.gy k
 unfold gD.f
 repeat' first
  | (with_reducible exact cZ _ _)
  | (with_reducible exact gq.mono _ _ _)
  | (with_reducible exact aN.refl _)
  | (with_reducible exact aN.none _)
  | (with_reducible refine aN.ite ?_ ?_)
  | (with_reducible refine aN.bind ?_ (fun _ => ?_))
  | exact cZ _ _
  | exact gq.mono _ _ _
  | exact aN.none _
  | refine aN.ite ?_ ?_
  | refine aN.bind ?_ (fun _ => ?_)
theorem gD.calls (k : Nat) (a0 : ByteArray) (r1 : Bool) (r2 : Int) (r3 : Int) (w : World) (h : gD.f k a0 = some (r1, r2, r3)) :
 Calls Tryz.prog 134 #[.string a0] w fun e w' => e = .returned (.tuple #[.agg #[.bool r1, .int .i64 r2], .int .i64 r3]) ∧ Below w.heap.size w w' := by
 have mg := Tryz.underlying48
 have HB := am (Below.refl w.heap.size w)
 have H : (if (a0.size : Int) < 2 then (gD.j0 k a0 true) else (if 0 < (a0.size : Int) then (if (bt a0 0) = 117 then (gD.j0 k a0 false) else (gD.j0 k a0 ((bt a0 0) != 105))) else (none))) = some (r1, r2, r3) := h
 clear h
 have qb := am H
 clear H
 go_enter Tryz.func134, Tryz.ntmps134
 go_upto_region 1 with (first | ((with_reducible refine cK (N := 2) rfl ?_); refine cO ?hg (N := 2) ?hd (cs := #[.bool false, .int .i64 0]) (t := 48) ?hr ?_; (case hd => rfl); (case hg => rfl); (case hr => first | (go_simp; done) | (go_simp; rfl)); intro iR hg w3 aV hb; have ay := am (bP (by repeat (first | (with_reducible first | exact HB.out | apply bA | apply pN | apply au) | exact HB.out)) hb); have aA := am (aV); have aK := am ((by rw [hg]; exact (bZ (by repeat (first | (with_reducible first | exact HB.out | apply bA | apply pN | apply au) | exact HB.out))) : w.heap.size ≤ iR)); have aU := am ((by rw [hg]; exact (bZ (by repeat (first | (with_reducible first | exact HB.out | apply bA | apply pN | apply au) | exact HB.out))) : w.heap.size ≤ iR)); clear HB; have HB := ay; have eD := aA; have aq3 := aK; have jW := aU; clear ay aA aK aU; clear hb aV hg))
 (try simp only [Act.put, List.setIfInBounds_toArray, List.set_cons_zero, List.set_cons_succ])
 go_cut [19] (fun v19 wc => ∃ (kq : Nat) (Ht : Bool), v19 = .bool Ht ∧ bI (gD.j0 kq a0 Ht = some (r1, r2, r3)) ∧ bI (kq ≤ k) ∧ bI (wc.heap[iR]? = some (.cells #[.bool false, .int .i64 0] 48 (0, 0))) ∧ bI (Below w.heap.size w wc))
 case first =>
  have H := qb.out
  clear qb
  by_cases c4 : (a0.size : Int) < 2
  ·rw [if_pos c4] at H
   have fJ : decide ((a0.size : Int) < 2) = true := decide_eq_true c4
   have uM : decide (a0.size < 2) = true := decide_eq_true (by omega)
   clear c4
   (first | rw [fJ] | (simp only [dS, eZ]; rw [fJ]) | skip)
   have H' := am H
   clear H
   go_wp2
   go_meet
   case rel => exact ⟨_, (true), (by first | rfl | (simp; done) | (simp [*]; done)), H', ⟨by first | omega | exact Nat.le_refl _⟩, ⟨by (with_reducible repeat (first | apply kN | apply kD | apply kA)); exact eD.out⟩, ⟨by repeat (first | (with_reducible first | exact HB.out | apply bA | apply pN | apply au | refine bS ?_ jW.out) | exact HB.out)⟩⟩
  ·rw [if_neg c4] at H
   have fJ : decide ((a0.size : Int) < 2) = false := decide_eq_false c4
   have uM : decide (a0.size < 2) = false := decide_eq_false (by omega)
   clear c4
   (first | rw [fJ] | (simp only [dS, eZ]; rw [fJ]) | skip)
   by_cases c5 : 0 < (a0.size : Int)
   ·rw [if_pos c5] at H
    have g_ : decide (0 < (a0.size : Int)) = true := decide_eq_true c5
    have kW : decide (0 < a0.size) = true := decide_eq_true (by omega)
    clear c5
    by_cases c7 : (bt a0 0) = 117
    ·rw [if_pos c7] at H
     have iB : ((bt a0 0) == 117) = true := beq_iff_eq.mpr c7
     have j5 : ((bt a0 0) != 117) = false := bne_eq_false_iff_eq.mpr c7
     clear c7
     have H' := am H
     clear H
     have p6 : 0 ≤ (0 : Int) := (by omega)
     have q6 : 0 < a0.size := (by have : (0 : Int) < (a0.size : Int) := of_decide_eq_true (by first | (with_reducible assumption) | assumption); omega)
     have hx6 : ∀ h : 0 < a0.size, ((a0[0]'h).toNat : Int) = bt a0 0 := gQ a0 0
     clear p6
     have SV : (0 < (a0.size : Int)) = True := eq_true (of_decide_eq_true (by first | (with_reducible assumption) | assumption))
     replace q6 := eq_true q6
     go_wp2
     go_meet
     case rel => exact ⟨_, (false), (by first | rfl | (simp; done) | (simp [*]; done)), H', ⟨by first | omega | exact Nat.le_refl _⟩, ⟨by (with_reducible repeat (first | apply kN | apply kD | apply kA)); exact eD.out⟩, ⟨by repeat (first | (with_reducible first | exact HB.out | apply bA | apply pN | apply au | refine bS ?_ jW.out) | exact HB.out)⟩⟩
    ·rw [if_neg c7] at H
     have iB : ((bt a0 0) == 117) = false := beq_eq_false_iff_ne.mpr c7
     have j5 : ((bt a0 0) != 117) = true := bne_iff_ne.mpr c7
     have H' := am H
     clear H
     have p6 : 0 ≤ (0 : Int) := (by omega)
     have q6 : 0 < a0.size := (by have : (0 : Int) < (a0.size : Int) := of_decide_eq_true (by first | (with_reducible assumption) | assumption); omega)
     have hx6 : ∀ h : 0 < a0.size, ((a0[0]'h).toNat : Int) = bt a0 0 := gQ a0 0
     clear p6
     have SV : (0 < (a0.size : Int)) = True := eq_true (of_decide_eq_true (by first | (with_reducible assumption) | assumption))
     replace q6 := eq_true q6
     have p8 : 0 ≤ (0 : Int) := (by omega)
     have q8 : 0 < a0.size := (by have : (0 : Int) < (a0.size : Int) := of_decide_eq_true (by first | (with_reducible assumption) | assumption); omega)
     have MS : ∀ h : 0 < a0.size, ((a0[0]'h).toNat : Int) = bt a0 0 := gQ a0 0
     clear p8
     have qi8 : (0 < (a0.size : Int)) = True := eq_true (of_decide_eq_true (by first | (with_reducible assumption) | assumption))
     replace q8 := eq_true q8
     go_wp2
     go_meet
     case rel => exact ⟨_, (((bt a0 0) != 105)), (by first | rfl | (simp; done) | (simp [*]; done)), H', ⟨by first | omega | exact Nat.le_refl _⟩, ⟨by (with_reducible repeat (first | apply kN | apply kD | apply kA)); exact eD.out⟩, ⟨by repeat (first | (with_reducible first | exact HB.out | apply bA | apply pN | apply au | refine bS ?_ jW.out) | exact HB.out)⟩⟩
   ·rw [if_neg c5] at H
    exact absurd H (by simp)
 case rest =>
  clear qb
  try clear c1
  try clear p2
  try clear c4
  try clear fJ
  try clear uM
  try clear c5
  try clear g_
  try clear kW
  try clear p6
  try clear q6
  try clear hx6
  try clear SV
  try clear c7
  try clear iB
  try clear j5
  try clear p8
  try clear q8
  try clear MS
  try clear qi8
  try clear p6
  try clear p8
  try clear q6
  try clear q8
  obtain ⟨kq, Ht, rfl, HA, RG, eD, HB⟩ := hcut
  cases kq with
  | zero => exact absurd HA.out (by simp [gD.j0])
  | succ n_ =>
   have H := HA.out
   clear HA
   simp only [gD.j0] at H
   by_cases c9 : Ht = true
   ·subst c9
    have H1 : (some (false, 0, 2)) = some (r1, r2, r3) := by rw [if_pos rfl] at H; exact H
    clear H
    have H := H1
    clear H1
    simp only [Option.some.injEq, Prod.mk.injEq] at H
    obtain ⟨rfl, rfl, rfl⟩ := H
    have := cz eD.out 0 rfl
    have := cz eD.out 1 rfl
    have := fz eD.out 0
    have := fz eD.out 1
    go_wp2
    refine bodyPost_ret (zV rfl _ _ iR 48 #[.bool false, .int .i64 0] (0, 0) _ rfl (by (with_reducible repeat (first | apply kN | apply kD | apply kA)); refine bX (cs := #[.bool false, .int .i64 0]) ?_ 1 _ rfl; (with_reducible repeat (first | apply kN | apply kD | apply kA)); refine bX (cs := #[.bool false, .int .i64 0]) ?_ 0 _ rfl; (with_reducible repeat (first | apply kN | apply kD | apply kA)); exact eD.out) Tryz.underlying48 rfl (by kernel_rfl)) rfl ?_
    exact ⟨by first | rfl | (simp [aQ, aR] <;> rfl) | (simp [*, aQ, aR] <;> rfl), by repeat (first | (with_reducible first | exact HB.out | apply bA | apply pN | apply au | refine bS ?_ jW.out) | exact HB.out)⟩
   ·replace c9 := Bool.eq_false_iff.mpr c9
    subst c9
    have H1 : (if 1 ≤ (a0.size : Int) then ((gq.f n_ (a0.extract 1 a0.size) 10).bind fun zU => (if 0 < (a0.size : Int) then (if zU.2 = 0 then ((gK.f ((bt a0 0) == 105) zU.1).bind fun t118 => (if t118 = 0 then (some (((bt a0 0) == 105), zU.1, 0)) else (some (false, 0, 2)))) else (some (false, 0, 2))) else (none))) else (none)) = some (r1, r2, r3) := by rw [if_neg (show ¬ (false = true) by decide)] at H; exact H
    clear H
    have H := H1
    clear H1
    by_cases c11 : 1 ≤ (a0.size : Int)
    ·rw [if_pos c11] at H
     have og := eq_true c11
     have oZ : decide (1 ≤ (a0.size : Int)) = true := decide_eq_true c11
     clear c11
     replace H := Option.bind_eq_some_iff.mp H
     obtain ⟨⟨t115, t116⟩, qy, H⟩ := H
     replace H : (if 0 < (a0.size : Int) then (if t116 = 0 then ((gK.f ((bt a0 0) == 105) t115).bind fun t118 => (if t118 = 0 then (some (((bt a0 0) == 105), t115, 0)) else (some (false, 0, 2)))) else (some (false, 0, 2))) else (none)) = some (r1, r2, r3) := H
     have lN := am qy
     clear qy
     by_cases c13 : 0 < (a0.size : Int)
     ·rw [if_pos c13] at H
      have kY : decide (0 < (a0.size : Int)) = true := decide_eq_true c13
      have zH : decide (0 < a0.size) = true := decide_eq_true (by omega)
      clear c13
      by_cases c15 : t116 = 0
      ·rw [if_pos c15] at H
       have sV : (t116 == 0) = true := beq_iff_eq.mpr c15
       have xw : (t116 != 0) = false := bne_eq_false_iff_eq.mpr c15
       clear c15
       replace H := Option.bind_eq_some_iff.mp H
       obtain ⟨t118, SX, H⟩ := H
       replace H : (if t118 = 0 then (some (((bt a0 0) == 105), t115, 0)) else (some (false, 0, 2))) = some (r1, r2, r3) := H
       have SY := am SX
       clear SX
       by_cases c17 : t118 = 0
       ·rw [if_pos c17] at H
        have yZ : (t118 == 0) = true := beq_iff_eq.mpr c17
        have DJ : (t118 != 0) = false := bne_eq_false_iff_eq.mpr c17
        clear c17
        simp only [Option.some.injEq, Prod.mk.injEq] at H
        obtain ⟨rfl, rfl, rfl⟩ := H
        go_wp2_with (first | ((with_reducible refine bY (f := 188) rfl ?_); refine b_ (some 24) rfl rfl Tryz.func188 (by kernel_rfl) rfl #[.string (a0.extract 1 a0.size), .int .i64 10] rfl (by (try simp only [List.map_toArray, List.map_cons, List.map_nil]); first | done | rfl | (simp only [List.length_drop, List.length_take]; rfl)) ?_; (with_reducible refine (gq.calls n_ (a0.extract 1 a0.size) 10 t115 t116 _ lN.out).mono ?_); rintro e w' ⟨rfl, ⟨nd, rfl⟩⟩; refine ⟨_, rfl, ?_⟩; (try (rw [MU wc]; generalize rA : World.drewN wc _ = wc; have ay : bI (wc.heap[iR]? = some (.cells #[.bool false, .int .i64 0] 48 (0, 0))) := ⟨by rw [← rA]; exact (by (with_reducible repeat (first | apply kN | apply kD | apply kA)); exact eD.out)⟩; have aA : bI (Below w.heap.size w wc) := ⟨by rw [← rA]; exact (by repeat (first | (with_reducible first | exact HB.out | apply bA | apply pN | apply au | refine bS ?_ jW.out) | exact HB.out))⟩; clear eD HB rA; have eD := ay; have HB := aA; clear ay aA)); have Eu : 0 ≤ (0 : Int) := (by omega); have xD : 0 < a0.size := (by have : (0 : Int) < (a0.size : Int) := of_decide_eq_true (by first | (with_reducible assumption) | assumption); omega); have S9 : ∀ h : 0 < a0.size, ((a0[0]'h).toNat : Int) = bt a0 0 := gQ a0 0; clear Eu; have S_ : (0 < (a0.size : Int)) = True := eq_true (of_decide_eq_true (by first | (with_reducible assumption) | assumption)); replace xD := eq_true xD) | ((with_reducible refine cK (N := 6) rfl ?_); refine cO ?hg (N := 6) ?hd (cs := #[.bool false, .int .i64 0]) (t := 48) ?hr ?_; (case hd => rfl); (case hg => rfl); (case hr => first | (go_simp; done) | (go_simp; rfl)); intro mq hg Sb aV hb; have ay := am (kB (g := iR) (o := .cells #[.bool false, .int .i64 0] 48 (0, 0)) (by (with_reducible repeat (first | apply kN | apply kD | apply kA)); exact eD.out) hb); have aA := am (bP (by repeat (first | (with_reducible first | exact HB.out | apply bA | apply pN | apply au | refine bS ?_ jW.out) | exact HB.out)) hb); have aK := am (aV); have aU := am ((by rw [hg]; exact (bZ (by repeat (first | (with_reducible first | exact HB.out | apply bA | apply pN | apply au | refine bS ?_ jW.out) | exact HB.out))) : w.heap.size ≤ mq)); have dZ := am ((by rw [hg]; exact (bZ (by repeat (first | (with_reducible first | exact HB.out | apply bA | apply pN | apply au | refine bS ?_ jW.out) | exact HB.out))) : w.heap.size ≤ mq)); have eH := am ((by rw [hg]; exact Nat.ne_of_lt (kL (g := iR) (o := .cells #[.bool false, .int .i64 0] 48 (0, 0)) (by (with_reducible repeat (first | apply kN | apply kD | apply kA)); exact eD.out)) : iR ≠ mq)); have eO := am ((by rw [hg]; exact Nat.ne_of_gt (kL (g := iR) (o := .cells #[.bool false, .int .i64 0] 48 (0, 0)) (by (with_reducible repeat (first | apply kN | apply kD | apply kA)); exact eD.out)) : mq ≠ iR)); clear eD; clear HB; have eD := ay; have HB := aA; have jl := aK; have Ta := aU; have zW := dZ; have rC := eH; have Ew := eO; clear ay aA aK aU dZ eH eO; clear hb aV hg; have adL := Ew.out; have adM := rC.out; have := cz jl.out 0 rfl; have := cz jl.out 1 rfl; have := fz jl.out 0; have := fz jl.out 1) | (go_at_call 64; (with_reducible refine (gK.calls ((bt a0 0) == 105) t115 t118 _ SY.out).mono ?_); rintro e Eh ⟨rfl, hb⟩; have ay := am (kB (g := iR) (o := .cells #[.bool false, .int .i64 0] 48 (0, 0)) (by (with_reducible repeat (first | apply kN | apply kD | apply kA)); refine dK ?_ rC.out _; (with_reducible repeat (first | apply kN | apply kD | apply kA)); refine dK ?_ rC.out _; (with_reducible repeat (first | apply kN | apply kD | apply kA)); exact eD.out) hb); have aA := am (kB (g := mq) (o := .cells #[.bool ((bt a0 0) == 105), .int .i64 t115] 48 (0, 0)) (by (with_reducible repeat (first | apply kN | apply kD | apply kA)); refine bX (cs := #[.bool ((bt a0 0) == 105), .int .i64 0]) ?_ 1 _ rfl; (with_reducible repeat (first | apply kN | apply kD | apply kA)); refine bX (cs := #[.bool false, .int .i64 0]) ?_ 0 _ rfl; (with_reducible repeat (first | apply kN | apply kD | apply kA)); exact jl.out) hb); have aK := am (bP (by repeat (first | (with_reducible first | exact HB.out | apply bA | apply pN | apply au | refine bS ?_ jW.out | refine bS ?_ zW.out) | exact HB.out)) hb); clear eD; clear jl; clear HB; have eD := ay; have jl := aA; have HB := aK; clear ay aA aK; (try clear hb); (try clear hb2); (try clear hk); (try clear hi); have := cz jl.out 0 rfl; have := cz jl.out 1 rfl; have := fz jl.out 0; have := fz jl.out 1; have := cz eD.out 0 rfl; have := cz eD.out 1 rfl; have := fz eD.out 0; have := fz eD.out 1))
        refine bodyPost_ret (zV rfl _ _ iR 48 #[.bool ((bt a0 0) == 105), .int .i64 t115] (0, 0) _ rfl (by (with_reducible repeat (first | apply kN | apply kD | apply kA)); refine bX (cs := #[.bool ((bt a0 0) == 105), .int .i64 0]) ?_ 1 _ rfl; (with_reducible repeat (first | apply kN | apply kD | apply kA)); refine bX (cs := #[.bool false, .int .i64 0]) ?_ 0 _ rfl; (with_reducible repeat (first | apply kN | apply kD | apply kA)); exact eD.out) Tryz.underlying48 rfl (by kernel_rfl)) rfl ?_
        exact ⟨by first | rfl | (simp [aQ, aR] <;> rfl) | (simp [*, aQ, aR] <;> rfl), by repeat (first | (with_reducible first | exact HB.out | apply bA | apply pN | apply au | refine bS ?_ jW.out | refine bS ?_ zW.out) | exact HB.out)⟩
       ·rw [if_neg c17] at H
        have yZ : (t118 == 0) = false := beq_eq_false_iff_ne.mpr c17
        have DJ : (t118 != 0) = true := bne_iff_ne.mpr c17
        simp only [Option.some.injEq, Prod.mk.injEq] at H
        obtain ⟨rfl, rfl, rfl⟩ := H
        go_wp2_with (first | ((with_reducible refine bY (f := 188) rfl ?_); refine b_ (some 24) rfl rfl Tryz.func188 (by kernel_rfl) rfl #[.string (a0.extract 1 a0.size), .int .i64 10] rfl (by (try simp only [List.map_toArray, List.map_cons, List.map_nil]); first | done | rfl | (simp only [List.length_drop, List.length_take]; rfl)) ?_; (with_reducible refine (gq.calls n_ (a0.extract 1 a0.size) 10 t115 t116 _ lN.out).mono ?_); rintro e w' ⟨rfl, ⟨nd, rfl⟩⟩; refine ⟨_, rfl, ?_⟩; (try (rw [MU wc]; generalize rA : World.drewN wc _ = wc; have ay : bI (wc.heap[iR]? = some (.cells #[.bool false, .int .i64 0] 48 (0, 0))) := ⟨by rw [← rA]; exact (by (with_reducible repeat (first | apply kN | apply kD | apply kA)); exact eD.out)⟩; have aA : bI (Below w.heap.size w wc) := ⟨by rw [← rA]; exact (by repeat (first | (with_reducible first | exact HB.out | apply bA | apply pN | apply au | refine bS ?_ jW.out) | exact HB.out))⟩; clear eD HB rA; have eD := ay; have HB := aA; clear ay aA)); have Eu : 0 ≤ (0 : Int) := (by omega); have xD : 0 < a0.size := (by have : (0 : Int) < (a0.size : Int) := of_decide_eq_true (by first | (with_reducible assumption) | assumption); omega); have S9 : ∀ h : 0 < a0.size, ((a0[0]'h).toNat : Int) = bt a0 0 := gQ a0 0; clear Eu; have S_ : (0 < (a0.size : Int)) = True := eq_true (of_decide_eq_true (by first | (with_reducible assumption) | assumption)); replace xD := eq_true xD) | ((with_reducible refine cK (N := 6) rfl ?_); refine cO ?hg (N := 6) ?hd (cs := #[.bool false, .int .i64 0]) (t := 48) ?hr ?_; (case hd => rfl); (case hg => rfl); (case hr => first | (go_simp; done) | (go_simp; rfl)); intro mq hg w24 aV hb; have ay := am (kB (g := iR) (o := .cells #[.bool false, .int .i64 0] 48 (0, 0)) (by (with_reducible repeat (first | apply kN | apply kD | apply kA)); exact eD.out) hb); have aA := am (bP (by repeat (first | (with_reducible first | exact HB.out | apply bA | apply pN | apply au | refine bS ?_ jW.out) | exact HB.out)) hb); have aK := am (aV); have aU := am ((by rw [hg]; exact (bZ (by repeat (first | (with_reducible first | exact HB.out | apply bA | apply pN | apply au | refine bS ?_ jW.out) | exact HB.out))) : w.heap.size ≤ mq)); have dZ := am ((by rw [hg]; exact (bZ (by repeat (first | (with_reducible first | exact HB.out | apply bA | apply pN | apply au | refine bS ?_ jW.out) | exact HB.out))) : w.heap.size ≤ mq)); have eH := am ((by rw [hg]; exact Nat.ne_of_lt (kL (g := iR) (o := .cells #[.bool false, .int .i64 0] 48 (0, 0)) (by (with_reducible repeat (first | apply kN | apply kD | apply kA)); exact eD.out)) : iR ≠ mq)); have eO := am ((by rw [hg]; exact Nat.ne_of_gt (kL (g := iR) (o := .cells #[.bool false, .int .i64 0] 48 (0, 0)) (by (with_reducible repeat (first | apply kN | apply kD | apply kA)); exact eD.out)) : mq ≠ iR)); clear eD; clear HB; have eD := ay; have HB := aA; have jl := aK; have Ta := aU; have zW := dZ; have rC := eH; have Ew := eO; clear ay aA aK aU dZ eH eO; clear hb aV hg; have aaf := Ew.out; have aag := rC.out; have := cz jl.out 0 rfl; have := cz jl.out 1 rfl; have := fz jl.out 0; have := fz jl.out 1) | (go_at_call 64; (with_reducible refine (gK.calls ((bt a0 0) == 105) t115 t118 _ SY.out).mono ?_); rintro e Tc ⟨rfl, hb⟩; have ay := am (kB (g := iR) (o := .cells #[.bool false, .int .i64 0] 48 (0, 0)) (by (with_reducible repeat (first | apply kN | apply kD | apply kA)); refine dK ?_ rC.out _; (with_reducible repeat (first | apply kN | apply kD | apply kA)); refine dK ?_ rC.out _; (with_reducible repeat (first | apply kN | apply kD | apply kA)); exact eD.out) hb); have aA := am (kB (g := mq) (o := .cells #[.bool ((bt a0 0) == 105), .int .i64 t115] 48 (0, 0)) (by (with_reducible repeat (first | apply kN | apply kD | apply kA)); refine bX (cs := #[.bool ((bt a0 0) == 105), .int .i64 0]) ?_ 1 _ rfl; (with_reducible repeat (first | apply kN | apply kD | apply kA)); refine bX (cs := #[.bool false, .int .i64 0]) ?_ 0 _ rfl; (with_reducible repeat (first | apply kN | apply kD | apply kA)); exact jl.out) hb); have aK := am (bP (by repeat (first | (with_reducible first | exact HB.out | apply bA | apply pN | apply au | refine bS ?_ jW.out | refine bS ?_ zW.out) | exact HB.out)) hb); clear eD; clear jl; clear HB; have eD := ay; have jl := aA; have HB := aK; clear ay aA aK; (try clear hb); (try clear hb2); (try clear hk); (try clear hi); have := cz eD.out 0 rfl; have := cz eD.out 1 rfl; have := fz eD.out 0; have := fz eD.out 1))
        refine bodyPost_ret (zV rfl _ _ iR 48 #[.bool false, .int .i64 0] (0, 0) _ rfl (by (with_reducible repeat (first | apply kN | apply kD | apply kA)); refine bX (cs := #[.bool false, .int .i64 0]) ?_ 1 _ rfl; (with_reducible repeat (first | apply kN | apply kD | apply kA)); refine bX (cs := #[.bool false, .int .i64 0]) ?_ 0 _ rfl; (with_reducible repeat (first | apply kN | apply kD | apply kA)); exact eD.out) Tryz.underlying48 rfl (by kernel_rfl)) rfl ?_
        exact ⟨by first | rfl | (simp [aQ, aR] <;> rfl) | (simp [*, aQ, aR] <;> rfl), by repeat (first | (with_reducible first | exact HB.out | apply bA | apply pN | apply au | refine bS ?_ jW.out | refine bS ?_ zW.out) | exact HB.out)⟩
      ·rw [if_neg c15] at H
       have sV : (t116 == 0) = false := beq_eq_false_iff_ne.mpr c15
       have xw : (t116 != 0) = true := bne_iff_ne.mpr c15
       simp only [Option.some.injEq, Prod.mk.injEq] at H
       obtain ⟨rfl, rfl, rfl⟩ := H
       go_wp2_with (first | ((with_reducible refine bY (f := 188) rfl ?_); refine b_ (some 24) rfl rfl Tryz.func188 (by kernel_rfl) rfl #[.string (a0.extract 1 a0.size), .int .i64 10] rfl (by (try simp only [List.map_toArray, List.map_cons, List.map_nil]); first | done | rfl | (simp only [List.length_drop, List.length_take]; rfl)) ?_; (with_reducible refine (gq.calls n_ (a0.extract 1 a0.size) 10 t115 t116 _ lN.out).mono ?_); rintro e w' ⟨rfl, ⟨nd, rfl⟩⟩; refine ⟨_, rfl, ?_⟩; (try (rw [MU wc]; generalize rA : World.drewN wc _ = wc; have ay : bI (wc.heap[iR]? = some (.cells #[.bool false, .int .i64 0] 48 (0, 0))) := ⟨by rw [← rA]; exact (by (with_reducible repeat (first | apply kN | apply kD | apply kA)); exact eD.out)⟩; have aA : bI (Below w.heap.size w wc) := ⟨by rw [← rA]; exact (by repeat (first | (with_reducible first | exact HB.out | apply bA | apply pN | apply au | refine bS ?_ jW.out) | exact HB.out))⟩; clear eD HB rA; have eD := ay; have HB := aA; clear ay aA)); have Eu : 0 ≤ (0 : Int) := (by omega); have xD : 0 < a0.size := (by have : (0 : Int) < (a0.size : Int) := of_decide_eq_true (by first | (with_reducible assumption) | assumption); omega); have S9 : ∀ h : 0 < a0.size, ((a0[0]'h).toNat : Int) = bt a0 0 := gQ a0 0; clear Eu; have S_ : (0 < (a0.size : Int)) = True := eq_true (of_decide_eq_true (by first | (with_reducible assumption) | assumption)); replace xD := eq_true xD) | ((with_reducible refine cK (N := 6) rfl ?_); refine cO ?hg (N := 6) ?hd (cs := #[.bool false, .int .i64 0]) (t := 48) ?hr ?_; (case hd => rfl); (case hg => rfl); (case hr => first | (go_simp; done) | (go_simp; rfl)); intro mq hg w29 aV hb; have ay := am (kB (g := iR) (o := .cells #[.bool false, .int .i64 0] 48 (0, 0)) (by (with_reducible repeat (first | apply kN | apply kD | apply kA)); exact eD.out) hb); have aA := am (bP (by repeat (first | (with_reducible first | exact HB.out | apply bA | apply pN | apply au | refine bS ?_ jW.out) | exact HB.out)) hb); have aK := am (aV); have aU := am ((by rw [hg]; exact (bZ (by repeat (first | (with_reducible first | exact HB.out | apply bA | apply pN | apply au | refine bS ?_ jW.out) | exact HB.out))) : w.heap.size ≤ mq)); have dZ := am ((by rw [hg]; exact (bZ (by repeat (first | (with_reducible first | exact HB.out | apply bA | apply pN | apply au | refine bS ?_ jW.out) | exact HB.out))) : w.heap.size ≤ mq)); have eH := am ((by rw [hg]; exact Nat.ne_of_lt (kL (g := iR) (o := .cells #[.bool false, .int .i64 0] 48 (0, 0)) (by (with_reducible repeat (first | apply kN | apply kD | apply kA)); exact eD.out)) : iR ≠ mq)); have eO := am ((by rw [hg]; exact Nat.ne_of_gt (kL (g := iR) (o := .cells #[.bool false, .int .i64 0] 48 (0, 0)) (by (with_reducible repeat (first | apply kN | apply kD | apply kA)); exact eD.out)) : mq ≠ iR)); clear eD; clear HB; have eD := ay; have HB := aA; have jl := aK; have Ta := aU; have zW := dZ; have rC := eH; have Ew := eO; clear ay aA aK aU dZ eH eO; clear hb aV hg; have aq4 := Ew.out; have aq5 := rC.out; have := cz jl.out 0 rfl; have := cz jl.out 1 rfl; have := fz jl.out 0; have := fz jl.out 1; have := cz eD.out 0 rfl; have := cz eD.out 1 rfl; have := fz eD.out 0; have := fz eD.out 1))
       refine bodyPost_ret (zV rfl _ _ iR 48 #[.bool false, .int .i64 0] (0, 0) _ rfl (by (with_reducible repeat (first | apply kN | apply kD | apply kA)); refine bX (cs := #[.bool false, .int .i64 0]) ?_ 1 _ rfl; (with_reducible repeat (first | apply kN | apply kD | apply kA)); refine bX (cs := #[.bool false, .int .i64 0]) ?_ 0 _ rfl; (with_reducible repeat (first | apply kN | apply kD | apply kA)); refine dK ?_ rC.out _; (with_reducible repeat (first | apply kN | apply kD | apply kA)); refine dK ?_ rC.out _; (with_reducible repeat (first | apply kN | apply kD | apply kA)); exact eD.out) Tryz.underlying48 rfl (by kernel_rfl)) rfl ?_
       exact ⟨by first | rfl | (simp [aQ, aR] <;> rfl) | (simp [*, aQ, aR] <;> rfl), by repeat (first | (with_reducible first | exact HB.out | apply bA | apply pN | apply au | refine bS ?_ jW.out | refine bS ?_ zW.out) | exact HB.out)⟩
     ·rw [if_neg c13] at H
      exact absurd H (by simp)
    ·rw [if_neg c11] at H
     exact absurd H (by simp)
noncomputable def kU.f (k : Nat) (a0 : ByteArray) : Option (Bool) := if (a0.size : Int) > 8 then (some false) else ((mY.f k a0).bind fun t119 => (if t119 = true then ((mI.f k a0).bind fun t120 => (if t120 = true then (some false) else ((gD.f k a0).bind fun rD => (some (rD.2.2 != 0))))) else (some false)))
theorem kU.mono : ∀ a0 k, aN (kU.f k a0) (kU.f (k + 1) a0) := by
 intro a0 k
 unfold kU.f
 repeat' first
  | (with_reducible exact mI.mono _ _)
  | (with_reducible exact mY.mono _ _)
  | (with_reducible exact gD.mono _ _)
  | (with_reducible exact aN.refl _)
  | (with_reducible exact aN.none _)
  | (with_reducible refine aN.ite ?_ ?_)
  | (with_reducible refine aN.bind ?_ (fun _ => ?_))
  | exact mI.mono _ _
  | exact mY.mono _ _
  | exact gD.mono _ _
  | exact aN.none _
  | refine aN.ite ?_ ?_
  | refine aN.bind ?_ (fun _ => ?_)
theorem kU.calls (k : Nat) (a0 : ByteArray) (r : Bool) (w : World) (HT0 : Go.Proofs.fM.jv w) (h : kU.f k a0 = some r) :
 Calls Tryz.prog 66 #[.string a0] w fun e w' => e = .returned (.bool r) ∧ Below w.heap.size w w' := by
 have mg := Tryz.underlying48
 have HB := am (Below.refl w.heap.size w)
 have HT := am HT0
 clear HT0
 have H : (if (a0.size : Int) > 8 then (some false) else ((mY.f k a0).bind fun t119 => (if t119 = true then ((mI.f k a0).bind fun t120 => (if t120 = true then (some false) else ((gD.f k a0).bind fun rD => (some (rD.2.2 != 0))))) else (some false)))) = some r := h
 clear h
 by_cases c2 : (a0.size : Int) > 8
 ·rw [if_pos c2] at H
  have iN : decide (8 < (a0.size : Int)) = true := decide_eq_true c2
  have nM : decide (8 < a0.size) = true := decide_eq_true (by omega)
  clear c2
  obtain rfl := Option.some.inj H
  go_enter Tryz.func66, Tryz.ntmps66
  go_wp2
  go_ret
  exact ⟨by first | rfl | (simp [aQ, aR] <;> rfl) | (simp [*, aQ, aR] <;> rfl), by repeat (first | (with_reducible first | exact HB.out | apply bA | apply pN | apply au) | exact HB.out)⟩
 ·rw [if_neg c2] at H
  have iN : decide (8 < (a0.size : Int)) = false := decide_eq_false c2
  have nM : decide (8 < a0.size) = false := decide_eq_false (by omega)
  clear c2
  replace H := Option.bind_eq_some_iff.mp H
  obtain ⟨t119, fH, H⟩ := H
  replace H : (if t119 = true then ((mI.f k a0).bind fun t120 => (if t120 = true then (some false) else ((gD.f k a0).bind fun rD => (some (rD.2.2 != 0))))) else (some false)) = some r := H
  have A3 := am fH
  clear fH
  by_cases c4 : t119 = true
  ·subst c4
   have H1 : ((mI.f k a0).bind fun t120 => (if t120 = true then (some false) else ((gD.f k a0).bind fun rD => (some (rD.2.2 != 0))))) = some r := by rw [if_pos rfl] at H; exact H
   clear H
   have H := H1
   clear H1
   replace H := Option.bind_eq_some_iff.mp H
   obtain ⟨t120, jA, H⟩ := H
   replace H : (if t120 = true then (some false) else ((gD.f k a0).bind fun rD => (some (rD.2.2 != 0)))) = some r := H
   have A5 := am jA
   clear jA
   by_cases c6 : t120 = true
   ·subst c6
    have H1 : (some false) = some r := by rw [if_pos rfl] at H; exact H
    clear H
    have H := H1
    clear H1
    obtain rfl := Option.some.inj H
    go_enter Tryz.func66, Tryz.ntmps66
    go_wp2_with (first | (go_at_call 132; (with_reducible refine (mY.calls k a0 true _ A3.out).mono ?_); rintro e w7 ⟨rfl, hb⟩; have ay := am (bP (by repeat (first | (with_reducible first | exact HB.out | apply bA | apply pN | apply au) | exact HB.out)) hb); clear HB; have HB := ay; clear ay; (try clear hb); (try clear hb2); (try clear hk); (try clear hi)) | (go_at_call 133; (with_reducible refine (mI.calls k a0 true _ ?dB A5.out).mono ?_); (case dB => exact HT.out.below (by repeat (first | (with_reducible first | exact HB.out | apply bA | apply pN | apply au) | exact HB.out))); rintro e w8 ⟨rfl, hb⟩; have ay := am (bP (by repeat (first | (with_reducible first | exact HB.out | apply bA | apply pN | apply au) | exact HB.out)) hb); clear HB; have HB := ay; clear ay; (try clear hb); (try clear hb2); (try clear hk); (try clear hi)))
    go_ret
    exact ⟨by first | rfl | (simp [aQ, aR] <;> rfl) | (simp [*, aQ, aR] <;> rfl), by repeat (first | (with_reducible first | exact HB.out | apply bA | apply pN | apply au) | exact HB.out)⟩
   ·replace c6 := Bool.eq_false_iff.mpr c6
    subst c6
    have H1 : ((gD.f k a0).bind fun rD => (some (rD.2.2 != 0))) = some r := by rw [if_neg (show ¬ (false = true) by decide)] at H; exact H
    clear H
    have H := H1
    clear H1
    replace H := Option.bind_eq_some_iff.mp H
    obtain ⟨⟨t121, t122, t123⟩, nP, H⟩ := H
    replace H : (some (t123 != 0)) = some r := H
    have A9 := am nP
    clear nP
    obtain rfl := Option.some.inj H
    go_enter Tryz.func66, Tryz.ntmps66
    go_wp2_with (first | (go_at_call 132; (with_reducible refine (mY.calls k a0 true _ A3.out).mono ?_); rintro e o7 ⟨rfl, hb⟩; have ay := am (bP (by repeat (first | (with_reducible first | exact HB.out | apply bA | apply pN | apply au) | exact HB.out)) hb); clear HB; have HB := ay; clear ay; (try clear hb); (try clear hb2); (try clear hk); (try clear hi)) | (go_at_call 133; (with_reducible refine (mI.calls k a0 false _ ?dB A5.out).mono ?_); (case dB => exact HT.out.below (by repeat (first | (with_reducible first | exact HB.out | apply bA | apply pN | apply au) | exact HB.out))); rintro e sP ⟨rfl, hb⟩; have ay := am (bP (by repeat (first | (with_reducible first | exact HB.out | apply bA | apply pN | apply au) | exact HB.out)) hb); clear HB; have HB := ay; clear ay; (try clear hb); (try clear hb2); (try clear hk); (try clear hi)) | ((with_reducible refine bY (f := 134) rfl ?_); refine b_ (some 19) rfl rfl Tryz.func134 (by kernel_rfl) rfl #[.string a0] rfl (by (try simp only [List.map_toArray, List.map_cons, List.map_nil]); first | done | rfl | (simp only [List.length_drop, List.length_take]; rfl)) ?_; (with_reducible refine (gD.calls k a0 t121 t122 t123 _ A9.out).mono ?_); rintro e uE ⟨rfl, hb⟩; refine ⟨_, rfl, ?_⟩; have ay := am (bP (by repeat (first | (with_reducible first | exact HB.out | apply bA | apply pN | apply au) | exact HB.out)) hb); clear HB; have HB := ay; clear ay; (try clear hb); (try clear hb2); (try clear hk); (try clear hi)) | ((with_reducible refine cK (N := 3) rfl ?_); refine cO ?hg (N := 3) ?hd (cs := #[.bool false, .int .i64 0]) (t := 48) ?hr ?_; (case hd => rfl); (case hg => rfl); (case hr => first | (go_simp; done) | (go_simp; rfl)); intro Td hg Eo aV hb; have ay := am (bP (by repeat (first | (with_reducible first | exact HB.out | apply bA | apply pN | apply au) | exact HB.out)) hb); have aA := am (aV); have aK := am ((by rw [hg]; exact (bZ (by repeat (first | (with_reducible first | exact HB.out | apply bA | apply pN | apply au) | exact HB.out))) : w.heap.size ≤ Td)); have aU := am ((by rw [hg]; exact (bZ (by repeat (first | (with_reducible first | exact HB.out | apply bA | apply pN | apply au) | exact HB.out))) : w.heap.size ≤ Td)); clear HB; have HB := ay; have Hu := aA; have aq6 := aK; have adO := aU; clear ay aA aK aU; clear hb aV hg; have := cz Hu.out 0 rfl; have := cz Hu.out 1 rfl; have := fz Hu.out 0; have := fz Hu.out 1))
    go_ret
    exact ⟨by first | rfl | (simp [aQ, aR] <;> rfl) | (simp [*, aQ, aR] <;> rfl), by repeat (first | (with_reducible first | exact HB.out | apply bA | apply pN | apply au | refine bS ?_ adO.out) | exact HB.out)⟩
  ·replace c4 := Bool.eq_false_iff.mpr c4
   subst c4
   have H1 : (some false) = some r := by rw [if_neg (show ¬ (false = true) by decide)] at H; exact H
   clear H
   have H := H1
   clear H1
   obtain rfl := Option.some.inj H
   go_enter Tryz.func66, Tryz.ntmps66
   go_wp2_with (first | (go_at_call 132; (with_reducible refine (mY.calls k a0 false _ A3.out).mono ?_); rintro e yY ⟨rfl, hb⟩; have ay := am (bP (by repeat (first | (with_reducible first | exact HB.out | apply bA | apply pN | apply au) | exact HB.out)) hb); clear HB; have HB := ay; clear ay; (try clear hb); (try clear hb2); (try clear hk); (try clear hi)))
   go_ret
   exact ⟨by first | rfl | (simp [aQ, aR] <;> rfl) | (simp [*, aQ, aR] <;> rfl), by repeat (first | (with_reducible first | exact HB.out | apply bA | apply pN | apply au) | exact HB.out)⟩
noncomputable def cB.j0 : Nat → Bool → Int → Int → ByteArray → Bool → Bool → Option (Bool)
 | 0, _, _, _, _, _, _ => none
 | k + 1, x33, MV, Te, Hw, adQ, adR => if x33 = true then (some false) else ((iX.f MV).bind fun t126 => (if t126 = true then ((kH.f MV Te Hw adQ adR).bind fun rE => ((gK.f rE.1 rE.2).bind fun t129 => (if t129 = 0 then (some (Hw.toList == ([] : List UInt8))) else (some false)))) else (if Te = 0 then (if MV = 5 then ((kU.f k Hw).bind fun t130 => (if t130 = true then (some true) else (some false))) else (some (Hw.toList == ([] : List UInt8)))) else (some false))))
noncomputable def cB.f (k : Nat) (ah : Int) (av : Int) (aG : ByteArray) (aJ : Bool) (aI : Bool) : Option (Bool) := if ah < 0 then (cB.j0 k true ah av aG aJ aI) else (if ah > 5 then (cB.j0 k true ah av aG aJ aI) else (if aJ = true then (if ah = 0 then (cB.j0 k true ah av aG aJ aI) else (if ah = 4 then (cB.j0 k true ah av aG aJ aI) else (if aI = true then (cB.j0 k (ah == 4) ah av aG aJ aI) else (cB.j0 k false ah av aG aJ aI)))) else (if aI = true then (cB.j0 k (ah == 4) ah av aG aJ aI) else (cB.j0 k false ah av aG aJ aI))))
theorem cB.gy : ∀ k, (∀ y0 y1 y2 y3 y4 y5, aN (cB.j0 k y0 y1 y2 y3 y4 y5) (cB.j0 (k + 1) y0 y1 y2 y3 y4 y5))
 | 0 => fun _ _ _ _ _ _ r h => by simp [cB.j0] at h
 | k + 1 => by
  have cZ := cB.gy k
  ·intro y0 y1 y2 y3 y4 y5
   unfold cB.j0
   repeat' first
   | (with_reducible exact cZ _ _ _ _ _ _)
   | (with_reducible exact kU.mono _ _)
   | (with_reducible exact aN.refl _)
   | (with_reducible exact aN.none _)
   | (with_reducible refine aN.ite ?_ ?_)
   | (with_reducible refine aN.bind ?_ (fun _ => ?_))
   | exact cZ _ _ _ _ _ _
   | exact kU.mono _ _
   | exact aN.none _
   | refine aN.ite ?_ ?_
   | refine aN.bind ?_ (fun _ => ?_)
theorem cB.mono : ∀ a0 a1 a2 a3 a4 k, aN (cB.f k a0 a1 a2 a3 a4) (cB.f (k + 1) a0 a1 a2 a3 a4) := by
 intro a0 a1 a2 a3 a4 k
 have cZ := cB.gy k
 unfold cB.f
 repeat' first
  | (with_reducible exact cZ _ _ _ _ _ _)
  | (with_reducible exact kU.mono _ _)
  | (with_reducible exact aN.refl _)
  | (with_reducible exact aN.none _)
  | (with_reducible refine aN.ite ?_ ?_)
  | (with_reducible refine aN.bind ?_ (fun _ => ?_))
  | exact cZ _ _ _ _ _ _
  | exact kU.mono _ _
  | exact aN.none _
  | refine aN.ite ?_ ?_
  | refine aN.bind ?_ (fun _ => ?_)
theorem cB.calls (k : Nat) (ah : Int) (av : Int) (aG : ByteArray) (aJ : Bool) (aI : Bool) (r : Bool) (w : World) (HT0 : Go.Proofs.fM.jv w) (h : cB.f k ah av aG aJ aI = some r) :
 Calls Tryz.prog 33 #[.agg #[.int .i64 ah, .int .i64 av, .string aG, .bool aJ, .bool aI]] w fun e w' => e = .returned (.bool r) ∧ Below w.heap.size w w' := by
 have lI := Tryz.underlying29
 have HB := am (Below.refl w.heap.size w)
 have HT := am HT0
 clear HT0
 have H : (if ah < 0 then (cB.j0 k true ah av aG aJ aI) else (if ah > 5 then (cB.j0 k true ah av aG aJ aI) else (if aJ = true then (if ah = 0 then (cB.j0 k true ah av aG aJ aI) else (if ah = 4 then (cB.j0 k true ah av aG aJ aI) else (if aI = true then (cB.j0 k (ah == 4) ah av aG aJ aI) else (cB.j0 k false ah av aG aJ aI)))) else (if aI = true then (cB.j0 k (ah == 4) ah av aG aJ aI) else (cB.j0 k false ah av aG aJ aI))))) = some r := h
 clear h
 have qb := am H
 clear H
 go_enter Tryz.func33, Tryz.ntmps33
 go_upto_region 1 with (first | ((with_reducible refine cK (N := 1) rfl ?_); refine cO ?hg (N := 1) ?hd (cs := #[.int .i64 ah, .int .i64 av, .string aG, .bool aJ, .bool aI]) (t := 29) ?hr ?_; (case hd => rfl); (case hg => rfl); (case hr => first | (go_simp; done) | (go_simp; rfl)); intro vL hg w3 aV hb; have ay := am (bP (by repeat (first | (with_reducible first | exact HB.out | apply bA | apply pN | apply au) | exact HB.out)) hb); have aA := am (aV); have aK := am ((by rw [hg]; exact (bZ (by repeat (first | (with_reducible first | exact HB.out | apply bA | apply pN | apply au) | exact HB.out))) : w.heap.size ≤ vL)); have aU := am ((by rw [hg]; exact (bZ (by repeat (first | (with_reducible first | exact HB.out | apply bA | apply pN | apply au) | exact HB.out))) : w.heap.size ≤ vL)); clear HB; have HB := ay; have aY := aA; have aq7 := aK; have jB := aU; clear ay aA aK aU; clear hb aV hg))
 (try simp only [Act.put, List.setIfInBounds_toArray, List.set_cons_zero, List.set_cons_succ])
 go_cut [33] (fun v33 wc => ∃ (kq : Nat) (Hy : Bool), v33 = .bool Hy ∧ bI (cB.j0 kq Hy ah av aG aJ aI = some r) ∧ bI (kq ≤ k) ∧ bI (wc.heap[vL]? = some (.cells #[.int .i64 ah, .int .i64 av, .string aG, .bool aJ, .bool aI] 29 (0, 0))) ∧ bI (Below w.heap.size w wc))
 case first =>
  have H := qb.out
  clear qb
  by_cases c4 : ah < 0
  ·rw [if_pos c4] at H
   have fJ : decide (ah < 0) = true := decide_eq_true c4
   clear c4
   (first | rw [fJ] | (simp only [dS, eZ]; rw [fJ]) | skip)
   have H' := am H
   clear H
   have := cz aY.out 0 rfl
   have := cz aY.out 1 rfl
   have := cz aY.out 2 rfl
   have := cz aY.out 3 rfl
   have := cz aY.out 4 rfl
   have := fz aY.out 0
   have := fz aY.out 1
   have := fz aY.out 2
   have := fz aY.out 3
   have := fz aY.out 4
   go_wp2
   go_meet
   case rel => exact ⟨_, (true), (by first | rfl | (simp; done) | (simp [*]; done)), H', ⟨by first | omega | exact Nat.le_refl _⟩, ⟨by (with_reducible repeat (first | apply kN | apply kD | apply kA)); exact aY.out⟩, ⟨by repeat (first | (with_reducible first | exact HB.out | apply bA | apply pN | apply au | refine bS ?_ jB.out) | exact HB.out)⟩⟩
  ·rw [if_neg c4] at H
   have fJ : decide (ah < 0) = false := decide_eq_false c4
   clear c4
   (first | rw [fJ] | (simp only [dS, eZ]; rw [fJ]) | skip)
   by_cases c6 : ah > 5
   ·rw [if_pos c6] at H
    have gT : decide (5 < ah) = true := decide_eq_true c6
    clear c6
    have H' := am H
    clear H
    have := cz aY.out 0 rfl
    have := cz aY.out 1 rfl
    have := cz aY.out 2 rfl
    have := cz aY.out 3 rfl
    have := cz aY.out 4 rfl
    have := fz aY.out 0
    have := fz aY.out 1
    have := fz aY.out 2
    have := fz aY.out 3
    have := fz aY.out 4
    go_wp2
    go_meet
    case rel => exact ⟨_, (true), (by first | rfl | (simp; done) | (simp [*]; done)), H', ⟨by first | omega | exact Nat.le_refl _⟩, ⟨by (with_reducible repeat (first | apply kN | apply kD | apply kA)); exact aY.out⟩, ⟨by repeat (first | (with_reducible first | exact HB.out | apply bA | apply pN | apply au | refine bS ?_ jB.out) | exact HB.out)⟩⟩
   ·rw [if_neg c6] at H
    have gT : decide (5 < ah) = false := decide_eq_false c6
    clear c6
    by_cases c8 : aJ = true
    ·subst c8
     have H1 : (if ah = 0 then (cB.j0 k true ah av aG true aI) else (if ah = 4 then (cB.j0 k true ah av aG true aI) else (if aI = true then (cB.j0 k (ah == 4) ah av aG true aI) else (cB.j0 k false ah av aG true aI)))) = some r := by rw [if_pos rfl] at H; exact H
     clear H
     have H := H1
     clear H1
     by_cases c9 : ah = 0
     ·rw [if_pos c9] at H
      have Ck : (ah == 0) = true := beq_iff_eq.mpr c9
      have Hg : (ah != 0) = false := bne_eq_false_iff_eq.mpr c9
      clear c9
      have H' := am H
      clear H
      have := cz aY.out 0 rfl
      have := cz aY.out 1 rfl
      have := cz aY.out 2 rfl
      have := cz aY.out 3 rfl
      have := cz aY.out 4 rfl
      have := fz aY.out 0
      have := fz aY.out 1
      have := fz aY.out 2
      have := fz aY.out 3
      have := fz aY.out 4
      go_wp2
      go_meet
      case rel => exact ⟨_, (true), (by first | rfl | (simp; done) | (simp [*]; done)), H', ⟨by first | omega | exact Nat.le_refl _⟩, ⟨by (with_reducible repeat (first | apply kN | apply kD | apply kA)); exact aY.out⟩, ⟨by repeat (first | (with_reducible first | exact HB.out | apply bA | apply pN | apply au | refine bS ?_ jB.out) | exact HB.out)⟩⟩
     ·rw [if_neg c9] at H
      have Ck : (ah == 0) = false := beq_eq_false_iff_ne.mpr c9
      have Hg : (ah != 0) = true := bne_iff_ne.mpr c9
      by_cases c11 : ah = 4
      ·rw [if_pos c11] at H
       have og : (ah == 4) = true := beq_iff_eq.mpr c11
       have oZ : (ah != 4) = false := bne_eq_false_iff_eq.mpr c11
       clear c11
       have H' := am H
       clear H
       have := cz aY.out 0 rfl
       have := cz aY.out 1 rfl
       have := cz aY.out 2 rfl
       have := cz aY.out 3 rfl
       have := cz aY.out 4 rfl
       have := fz aY.out 0
       have := fz aY.out 1
       have := fz aY.out 2
       have := fz aY.out 3
       have := fz aY.out 4
       go_wp2
       go_meet
       case rel => exact ⟨_, (true), (by first | rfl | (simp; done) | (simp [*]; done)), H', ⟨by first | omega | exact Nat.le_refl _⟩, ⟨by (with_reducible repeat (first | apply kN | apply kD | apply kA)); exact aY.out⟩, ⟨by repeat (first | (with_reducible first | exact HB.out | apply bA | apply pN | apply au | refine bS ?_ jB.out) | exact HB.out)⟩⟩
      ·rw [if_neg c11] at H
       have og : (ah == 4) = false := beq_eq_false_iff_ne.mpr c11
       have oZ : (ah != 4) = true := bne_iff_ne.mpr c11
       by_cases c13 : aI = true
       ·subst c13
        have H1 : (cB.j0 k (ah == 4) ah av aG true true) = some r := by rw [if_pos rfl] at H; exact H
        clear H
        have H := H1
        clear H1
        have H' := am H
        clear H
        have := cz aY.out 0 rfl
        have := cz aY.out 1 rfl
        have := cz aY.out 2 rfl
        have := cz aY.out 3 rfl
        have := cz aY.out 4 rfl
        have := fz aY.out 0
        have := fz aY.out 1
        have := fz aY.out 2
        have := fz aY.out 3
        have := fz aY.out 4
        go_wp2
        go_meet
        case rel => exact ⟨_, ((ah == 4)), (by first | rfl | (simp; done) | (simp [*]; done)), H', ⟨by first | omega | exact Nat.le_refl _⟩, ⟨by (with_reducible repeat (first | apply kN | apply kD | apply kA)); exact aY.out⟩, ⟨by repeat (first | (with_reducible first | exact HB.out | apply bA | apply pN | apply au | refine bS ?_ jB.out) | exact HB.out)⟩⟩
       ·replace c13 := Bool.eq_false_iff.mpr c13
        subst c13
        have H1 : (cB.j0 k false ah av aG true false) = some r := by rw [if_neg (show ¬ (false = true) by decide)] at H; exact H
        clear H
        have H := H1
        clear H1
        have H' := am H
        clear H
        have := cz aY.out 0 rfl
        have := cz aY.out 1 rfl
        have := cz aY.out 2 rfl
        have := cz aY.out 3 rfl
        have := cz aY.out 4 rfl
        have := fz aY.out 0
        have := fz aY.out 1
        have := fz aY.out 2
        have := fz aY.out 3
        have := fz aY.out 4
        go_wp2
        go_meet
        case rel => exact ⟨_, (false), (by first | rfl | (simp; done) | (simp [*]; done)), H', ⟨by first | omega | exact Nat.le_refl _⟩, ⟨by (with_reducible repeat (first | apply kN | apply kD | apply kA)); exact aY.out⟩, ⟨by repeat (first | (with_reducible first | exact HB.out | apply bA | apply pN | apply au | refine bS ?_ jB.out) | exact HB.out)⟩⟩
    ·replace c8 := Bool.eq_false_iff.mpr c8
     subst c8
     have H1 : (if aI = true then (cB.j0 k (ah == 4) ah av aG false aI) else (cB.j0 k false ah av aG false aI)) = some r := by rw [if_neg (show ¬ (false = true) by decide)] at H; exact H
     clear H
     have H := H1
     clear H1
     by_cases c16 : aI = true
     ·subst c16
      have H1 : (cB.j0 k (ah == 4) ah av aG false true) = some r := by rw [if_pos rfl] at H; exact H
      clear H
      have H := H1
      clear H1
      have H' := am H
      clear H
      have := cz aY.out 0 rfl
      have := cz aY.out 1 rfl
      have := cz aY.out 2 rfl
      have := cz aY.out 3 rfl
      have := cz aY.out 4 rfl
      have := fz aY.out 0
      have := fz aY.out 1
      have := fz aY.out 2
      have := fz aY.out 3
      have := fz aY.out 4
      go_wp2
      go_meet
      case rel => exact ⟨_, ((ah == 4)), (by first | rfl | (simp; done) | (simp [*]; done)), H', ⟨by first | omega | exact Nat.le_refl _⟩, ⟨by (with_reducible repeat (first | apply kN | apply kD | apply kA)); exact aY.out⟩, ⟨by repeat (first | (with_reducible first | exact HB.out | apply bA | apply pN | apply au | refine bS ?_ jB.out) | exact HB.out)⟩⟩
     ·replace c16 := Bool.eq_false_iff.mpr c16
      subst c16
      have H1 : (cB.j0 k false ah av aG false false) = some r := by rw [if_neg (show ¬ (false = true) by decide)] at H; exact H
      clear H
      have H := H1
      clear H1
      have H' := am H
      clear H
      have := cz aY.out 0 rfl
      have := cz aY.out 1 rfl
      have := cz aY.out 2 rfl
      have := cz aY.out 3 rfl
      have := cz aY.out 4 rfl
      have := fz aY.out 0
      have := fz aY.out 1
      have := fz aY.out 2
      have := fz aY.out 3
      have := fz aY.out 4
      go_wp2
      go_meet
      case rel => exact ⟨_, (false), (by first | rfl | (simp; done) | (simp [*]; done)), H', ⟨by first | omega | exact Nat.le_refl _⟩, ⟨by (with_reducible repeat (first | apply kN | apply kD | apply kA)); exact aY.out⟩, ⟨by repeat (first | (with_reducible first | exact HB.out | apply bA | apply pN | apply au | refine bS ?_ jB.out) | exact HB.out)⟩⟩
 case rest =>
  clear qb
  try clear c1
  try clear p2
  try clear c3
  try clear c4
  try clear fJ
  try clear c6
  try clear gT
  try clear c8
  try clear c9
  try clear Ck
  try clear Hg
  try clear c11
  try clear og
  try clear oZ
  try clear c13
  try clear c16
  try clear GJ
  try clear GK
  try clear GL
  try clear GN
  try clear GQ
  try clear zh
  try clear zi
  try clear zk
  try clear zl
  try clear zm
  try clear BS
  try clear BU
  try clear BX
  try clear BZ
  try clear B_
  try clear Sk
  try clear Sl
  try clear Sm
  try clear Sn
  try clear Sq
  try clear adS
  try clear adT
  try clear adU
  try clear adV
  try clear adW
  try clear DX
  try clear DY
  try clear DZ
  try clear D5
  try clear D6
  try clear adh
  try clear adi
  try clear adj
  try clear adk
  try clear adl
  try clear aq8
  try clear aq9
  try clear aq_
  try clear ara
  try clear arb
  try clear GR
  try clear GU
  try clear GV
  try clear GX
  try clear GY
  try clear zn
  try clear zo
  try clear zq
  try clear zu
  try clear zw
  try clear Ca
  try clear Cb
  try clear Cc
  try clear Ce
  try clear Cg
  try clear Sr
  try clear Sv
  try clear Sw
  try clear Sy
  try clear Sz
  try clear adX
  try clear adY
  try clear adZ
  try clear ad1
  try clear ad2
  try clear D7
  try clear D8
  try clear D9
  try clear D_
  try clear Ea
  try clear adv
  try clear adw
  try clear adx
  try clear ady
  try clear adz
  try clear ard
  try clear arf
  try clear arh
  try clear ari
  try clear arj
  obtain ⟨kq, Hy, rfl, HA, RG, aY, HB⟩ := hcut
  cases kq with
  | zero => exact absurd HA.out (by simp [cB.j0])
  | succ n_ =>
   have H := HA.out
   clear HA
   simp only [cB.j0] at H
   by_cases c19 : Hy = true
   ·subst c19
    have H1 : (some false) = some r := by rw [if_pos rfl] at H; exact H
    clear H
    have H := H1
    clear H1
    obtain rfl := Option.some.inj H
    go_wp2
    go_ret
    exact ⟨by first | rfl | (simp [aQ, aR] <;> rfl) | (simp [*, aQ, aR] <;> rfl), by repeat (first | (with_reducible first | exact HB.out | apply bA | apply pN | apply au | refine bS ?_ jB.out) | exact HB.out)⟩
   ·replace c19 := Bool.eq_false_iff.mpr c19
    subst c19
    have H1 : ((iX.f ah).bind fun t126 => (if t126 = true then ((kH.f ah av aG aJ aI).bind fun rE => ((gK.f rE.1 rE.2).bind fun t129 => (if t129 = 0 then (some (aG.toList == ([] : List UInt8))) else (some false)))) else (if av = 0 then (if ah = 5 then ((kU.f n_ aG).bind fun t130 => (if t130 = true then (some true) else (some false))) else (some (aG.toList == ([] : List UInt8)))) else (some false)))) = some r := by rw [if_neg (show ¬ (false = true) by decide)] at H; exact H
    clear H
    have H := H1
    clear H1
    replace H := Option.bind_eq_some_iff.mp H
    obtain ⟨t126, xu, H⟩ := H
    replace H : (if t126 = true then ((kH.f ah av aG aJ aI).bind fun rE => ((gK.f rE.1 rE.2).bind fun t129 => (if t129 = 0 then (some (aG.toList == ([] : List UInt8))) else (some false)))) else (if av = 0 then (if ah = 5 then ((kU.f n_ aG).bind fun t130 => (if t130 = true then (some true) else (some false))) else (some (aG.toList == ([] : List UInt8)))) else (some false))) = some r := H
    have f_ := am xu
    clear xu
    by_cases c21 : t126 = true
    ·subst c21
     have H1 : ((kH.f ah av aG aJ aI).bind fun rE => ((gK.f rE.1 rE.2).bind fun t129 => (if t129 = 0 then (some (aG.toList == ([] : List UInt8))) else (some false)))) = some r := by rw [if_pos rfl] at H; exact H
     clear H
     have H := H1
     clear H1
     replace H := Option.bind_eq_some_iff.mp H
     obtain ⟨⟨t127, t128⟩, xq, H⟩ := H
     replace H : ((gK.f t127 t128).bind fun t129 => (if t129 = 0 then (some (aG.toList == ([] : List UInt8))) else (some false))) = some r := H
     have qx := am xq
     clear xq
     replace H := Option.bind_eq_some_iff.mp H
     obtain ⟨t129, Tf, H⟩ := H
     replace H : (if t129 = 0 then (some (aG.toList == ([] : List UInt8))) else (some false)) = some r := H
     have Tg := am Tf
     clear Tf
     by_cases c24 : t129 = 0
     ·rw [if_pos c24] at H
      have y7 : (t129 == 0) = true := beq_iff_eq.mpr c24
      have DK : (t129 != 0) = false := bne_eq_false_iff_eq.mpr c24
      clear c24
      obtain rfl := Option.some.inj H
      have := cz aY.out 0 rfl
      have := cz aY.out 1 rfl
      have := cz aY.out 2 rfl
      have := cz aY.out 3 rfl
      have := cz aY.out 4 rfl
      have := fz aY.out 0
      have := fz aY.out 1
      have := fz aY.out 2
      have := fz aY.out 3
      have := fz aY.out 4
      go_wp2_with (first | ((with_reducible refine bY (f := 63) rfl ?_); refine b_ (some 36) rfl rfl Tryz.func63 (by kernel_rfl) rfl #[.int .i64 ah] rfl (by (try simp only [List.map_toArray, List.map_cons, List.map_nil]); first | done | rfl | (simp only [List.length_drop, List.length_take]; rfl)) ?_; (with_reducible refine (iX.calls ah true _ f_.out).mono ?_); rintro e w' ⟨rfl, ⟨nd, rfl⟩⟩; refine ⟨_, rfl, ?_⟩) | ((with_reducible refine bY (f := 65) rfl ?_); refine b_ (some 38) rfl rfl Tryz.func65 (by kernel_rfl) rfl #[.agg #[.int .i64 ah, .int .i64 av, .string aG, .bool aJ, .bool aI]] rfl (by (try simp only [List.map_toArray, List.map_cons, List.map_nil]); first | done | rfl | (simp only [List.length_drop, List.length_take]; rfl)) ?_; (with_reducible refine (kH.calls ah av aG aJ aI t127 t128 _ qx.out).mono ?_); rintro e Sg ⟨rfl, hb⟩; refine ⟨_, rfl, ?_⟩; have ay := am (kB (g := vL) (o := .cells #[.int .i64 ah, .int .i64 av, .string aG, .bool aJ, .bool aI] 29 (0, 0)) (by (with_reducible repeat (first | apply kN | apply kD | apply kA)); exact aY.out) hb); have aA := am (bP (by repeat (first | (with_reducible first | exact HB.out | apply bA | apply pN | apply au | refine bS ?_ jB.out) | exact HB.out)) hb); clear aY; clear HB; have aY := ay; have HB := aA; clear ay aA; (try clear hb); (try clear hb2); (try clear hk); (try clear hi)) | ((with_reducible refine bY (f := 64) rfl ?_); refine b_ (some 39) rfl rfl Tryz.func64 (by kernel_rfl) rfl #[.agg #[.bool t127, .int .i64 t128]] rfl (by (try simp only [List.map_toArray, List.map_cons, List.map_nil]); first | done | rfl | (simp only [List.length_drop, List.length_take]; rfl)) ?_; (with_reducible refine (gK.calls t127 t128 t129 _ Tg.out).mono ?_); rintro e Tc ⟨rfl, hb⟩; refine ⟨_, rfl, ?_⟩; have ay := am (kB (g := vL) (o := .cells #[.int .i64 ah, .int .i64 av, .string aG, .bool aJ, .bool aI] 29 (0, 0)) (by (with_reducible repeat (first | apply kN | apply kD | apply kA)); exact aY.out) hb); have aA := am (bP (by repeat (first | (with_reducible first | exact HB.out | apply bA | apply pN | apply au | refine bS ?_ jB.out) | exact HB.out)) hb); clear aY; clear HB; have aY := ay; have HB := aA; clear ay aA; (try clear hb); (try clear hb2); (try clear hk); (try clear hi); have := cz aY.out 0 rfl; have := cz aY.out 1 rfl; have := cz aY.out 2 rfl; have := cz aY.out 3 rfl; have := cz aY.out 4 rfl; have := fz aY.out 0; have := fz aY.out 1; have := fz aY.out 2; have := fz aY.out 3; have := fz aY.out 4))
      go_ret
      exact ⟨by first | rfl | (simp [aQ, aR] <;> rfl) | (simp [*, aQ, aR] <;> rfl), by repeat (first | (with_reducible first | exact HB.out | apply bA | apply pN | apply au | refine bS ?_ jB.out) | exact HB.out)⟩
     ·rw [if_neg c24] at H
      have y7 : (t129 == 0) = false := beq_eq_false_iff_ne.mpr c24
      have DK : (t129 != 0) = true := bne_iff_ne.mpr c24
      obtain rfl := Option.some.inj H
      have := cz aY.out 0 rfl
      have := cz aY.out 1 rfl
      have := cz aY.out 2 rfl
      have := cz aY.out 3 rfl
      have := cz aY.out 4 rfl
      have := fz aY.out 0
      have := fz aY.out 1
      have := fz aY.out 2
      have := fz aY.out 3
      have := fz aY.out 4
      go_wp2_with (first | ((with_reducible refine bY (f := 63) rfl ?_); refine b_ (some 36) rfl rfl Tryz.func63 (by kernel_rfl) rfl #[.int .i64 ah] rfl (by (try simp only [List.map_toArray, List.map_cons, List.map_nil]); first | done | rfl | (simp only [List.length_drop, List.length_take]; rfl)) ?_; (with_reducible refine (iX.calls ah true _ f_.out).mono ?_); rintro e w' ⟨rfl, ⟨nd, rfl⟩⟩; refine ⟨_, rfl, ?_⟩) | ((with_reducible refine bY (f := 65) rfl ?_); refine b_ (some 38) rfl rfl Tryz.func65 (by kernel_rfl) rfl #[.agg #[.int .i64 ah, .int .i64 av, .string aG, .bool aJ, .bool aI]] rfl (by (try simp only [List.map_toArray, List.map_cons, List.map_nil]); first | done | rfl | (simp only [List.length_drop, List.length_take]; rfl)) ?_; (with_reducible refine (kH.calls ah av aG aJ aI t127 t128 _ qx.out).mono ?_); rintro e w30 ⟨rfl, hb⟩; refine ⟨_, rfl, ?_⟩; have ay := am (kB (g := vL) (o := .cells #[.int .i64 ah, .int .i64 av, .string aG, .bool aJ, .bool aI] 29 (0, 0)) (by (with_reducible repeat (first | apply kN | apply kD | apply kA)); exact aY.out) hb); have aA := am (bP (by repeat (first | (with_reducible first | exact HB.out | apply bA | apply pN | apply au | refine bS ?_ jB.out) | exact HB.out)) hb); clear aY; clear HB; have aY := ay; have HB := aA; clear ay aA; (try clear hb); (try clear hb2); (try clear hk); (try clear hi)) | ((with_reducible refine bY (f := 64) rfl ?_); refine b_ (some 39) rfl rfl Tryz.func64 (by kernel_rfl) rfl #[.agg #[.bool t127, .int .i64 t128]] rfl (by (try simp only [List.map_toArray, List.map_cons, List.map_nil]); first | done | rfl | (simp only [List.length_drop, List.length_take]; rfl)) ?_; (with_reducible refine (gK.calls t127 t128 t129 _ Tg.out).mono ?_); rintro e w31 ⟨rfl, hb⟩; refine ⟨_, rfl, ?_⟩; have ay := am (kB (g := vL) (o := .cells #[.int .i64 ah, .int .i64 av, .string aG, .bool aJ, .bool aI] 29 (0, 0)) (by (with_reducible repeat (first | apply kN | apply kD | apply kA)); exact aY.out) hb); have aA := am (bP (by repeat (first | (with_reducible first | exact HB.out | apply bA | apply pN | apply au | refine bS ?_ jB.out) | exact HB.out)) hb); clear aY; clear HB; have aY := ay; have HB := aA; clear ay aA; (try clear hb); (try clear hb2); (try clear hk); (try clear hi)))
      go_ret
      exact ⟨by first | rfl | (simp [aQ, aR] <;> rfl) | (simp [*, aQ, aR] <;> rfl), by repeat (first | (with_reducible first | exact HB.out | apply bA | apply pN | apply au | refine bS ?_ jB.out) | exact HB.out)⟩
    ·replace c21 := Bool.eq_false_iff.mpr c21
     subst c21
     have H1 : (if av = 0 then (if ah = 5 then ((kU.f n_ aG).bind fun t130 => (if t130 = true then (some true) else (some false))) else (some (aG.toList == ([] : List UInt8)))) else (some false)) = some r := by rw [if_neg (show ¬ (false = true) by decide)] at H; exact H
     clear H
     have H := H1
     clear H1
     by_cases c32 : av = 0
     ·rw [if_pos c32] at H
      have Li : (av == 0) = true := beq_iff_eq.mpr c32
      have Lj : (av != 0) = false := bne_eq_false_iff_eq.mpr c32
      clear c32
      by_cases zX : ah = 5
      ·rw [if_pos zX] at H
       have ad5 : (ah == 5) = true := beq_iff_eq.mpr zX
       have ad6 : (ah != 5) = false := bne_eq_false_iff_eq.mpr zX
       clear zX
       replace H := Option.bind_eq_some_iff.mp H
       obtain ⟨t130, Ti, H⟩ := H
       replace H : (if t130 = true then (some true) else (some false)) = some r := H
       have Tj := am Ti
       clear Ti
       by_cases Hz : t130 = true
       ·subst Hz
        have H1 : (some true) = some r := by rw [if_pos rfl] at H; exact H
        clear H
        have H := H1
        clear H1
        obtain rfl := Option.some.inj H
        have := cz aY.out 0 rfl
        have := cz aY.out 1 rfl
        have := cz aY.out 2 rfl
        have := cz aY.out 3 rfl
        have := cz aY.out 4 rfl
        have := fz aY.out 0
        have := fz aY.out 1
        have := fz aY.out 2
        have := fz aY.out 3
        have := fz aY.out 4
        go_wp2_with (first | ((with_reducible refine bY (f := 63) rfl ?_); refine b_ (some 36) rfl rfl Tryz.func63 (by kernel_rfl) rfl #[.int .i64 ah] rfl (by (try simp only [List.map_toArray, List.map_cons, List.map_nil]); first | done | rfl | (simp only [List.length_drop, List.length_take]; rfl)) ?_; (with_reducible refine (iX.calls ah false _ f_.out).mono ?_); rintro e w' ⟨rfl, ⟨nd, rfl⟩⟩; refine ⟨_, rfl, ?_⟩) | (go_at_call 66; (with_reducible refine (kU.calls n_ aG true _ ?dB Tj.out).mono ?_); (case dB => exact HT.out.below (by repeat (first | (with_reducible first | exact HB.out | apply bA | apply pN | apply au | refine bS ?_ jB.out) | exact HB.out))); rintro e w37 ⟨rfl, hb⟩; have ay := am (kB (g := vL) (o := .cells #[.int .i64 ah, .int .i64 av, .string aG, .bool aJ, .bool aI] 29 (0, 0)) (by (with_reducible repeat (first | apply kN | apply kD | apply kA)); exact aY.out) hb); have aA := am (bP (by repeat (first | (with_reducible first | exact HB.out | apply bA | apply pN | apply au | refine bS ?_ jB.out) | exact HB.out)) hb); clear aY; clear HB; have aY := ay; have HB := aA; clear ay aA; (try clear hb); (try clear hb2); (try clear hk); (try clear hi)))
        go_ret
        exact ⟨by first | rfl | (simp [aQ, aR] <;> rfl) | (simp [*, aQ, aR] <;> rfl), by repeat (first | (with_reducible first | exact HB.out | apply bA | apply pN | apply au | refine bS ?_ jB.out) | exact HB.out)⟩
       ·replace Hz := Bool.eq_false_iff.mpr Hz
        subst Hz
        have H1 : (some false) = some r := by rw [if_neg (show ¬ (false = true) by decide)] at H; exact H
        clear H
        have H := H1
        clear H1
        obtain rfl := Option.some.inj H
        have := cz aY.out 0 rfl
        have := cz aY.out 1 rfl
        have := cz aY.out 2 rfl
        have := cz aY.out 3 rfl
        have := cz aY.out 4 rfl
        have := fz aY.out 0
        have := fz aY.out 1
        have := fz aY.out 2
        have := fz aY.out 3
        have := fz aY.out 4
        go_wp2_with (first | ((with_reducible refine bY (f := 63) rfl ?_); refine b_ (some 36) rfl rfl Tryz.func63 (by kernel_rfl) rfl #[.int .i64 ah] rfl (by (try simp only [List.map_toArray, List.map_cons, List.map_nil]); first | done | rfl | (simp only [List.length_drop, List.length_take]; rfl)) ?_; (with_reducible refine (iX.calls ah false _ f_.out).mono ?_); rintro e w' ⟨rfl, ⟨nd, rfl⟩⟩; refine ⟨_, rfl, ?_⟩) | (go_at_call 66; (with_reducible refine (kU.calls n_ aG false _ ?dB Tj.out).mono ?_); (case dB => exact HT.out.below (by repeat (first | (with_reducible first | exact HB.out | apply bA | apply pN | apply au | refine bS ?_ jB.out) | exact HB.out))); rintro e w39 ⟨rfl, hb⟩; have ay := am (kB (g := vL) (o := .cells #[.int .i64 ah, .int .i64 av, .string aG, .bool aJ, .bool aI] 29 (0, 0)) (by (with_reducible repeat (first | apply kN | apply kD | apply kA)); exact aY.out) hb); have aA := am (bP (by repeat (first | (with_reducible first | exact HB.out | apply bA | apply pN | apply au | refine bS ?_ jB.out) | exact HB.out)) hb); clear aY; clear HB; have aY := ay; have HB := aA; clear ay aA; (try clear hb); (try clear hb2); (try clear hk); (try clear hi); have := cz aY.out 0 rfl; have := cz aY.out 1 rfl; have := cz aY.out 2 rfl; have := cz aY.out 3 rfl; have := cz aY.out 4 rfl; have := fz aY.out 0; have := fz aY.out 1; have := fz aY.out 2; have := fz aY.out 3; have := fz aY.out 4))
        go_ret
        exact ⟨by first | rfl | (simp [aQ, aR] <;> rfl) | (simp [*, aQ, aR] <;> rfl), by repeat (first | (with_reducible first | exact HB.out | apply bA | apply pN | apply au | refine bS ?_ jB.out) | exact HB.out)⟩
      ·rw [if_neg zX] at H
       have ad5 : (ah == 5) = false := beq_eq_false_iff_ne.mpr zX
       have ad6 : (ah != 5) = true := bne_iff_ne.mpr zX
       obtain rfl := Option.some.inj H
       have := cz aY.out 0 rfl
       have := cz aY.out 1 rfl
       have := cz aY.out 2 rfl
       have := cz aY.out 3 rfl
       have := cz aY.out 4 rfl
       have := fz aY.out 0
       have := fz aY.out 1
       have := fz aY.out 2
       have := fz aY.out 3
       have := fz aY.out 4
       go_wp2_with (first | ((with_reducible refine bY (f := 63) rfl ?_); refine b_ (some 36) rfl rfl Tryz.func63 (by kernel_rfl) rfl #[.int .i64 ah] rfl (by (try simp only [List.map_toArray, List.map_cons, List.map_nil]); first | done | rfl | (simp only [List.length_drop, List.length_take]; rfl)) ?_; (with_reducible refine (iX.calls ah false _ f_.out).mono ?_); rintro e w' ⟨rfl, ⟨nd, rfl⟩⟩; refine ⟨_, rfl, ?_⟩))
       go_ret
       exact ⟨by first | rfl | (simp [aQ, aR] <;> rfl) | (simp [*, aQ, aR] <;> rfl), by repeat (first | (with_reducible first | exact HB.out | apply bA | apply pN | apply au | refine bS ?_ jB.out) | exact HB.out)⟩
     ·rw [if_neg c32] at H
      have Li : (av == 0) = false := beq_eq_false_iff_ne.mpr c32
      have Lj : (av != 0) = true := bne_iff_ne.mpr c32
      obtain rfl := Option.some.inj H
      have := cz aY.out 0 rfl
      have := cz aY.out 1 rfl
      have := cz aY.out 2 rfl
      have := cz aY.out 3 rfl
      have := cz aY.out 4 rfl
      have := fz aY.out 0
      have := fz aY.out 1
      have := fz aY.out 2
      have := fz aY.out 3
      have := fz aY.out 4
      go_wp2_with (first | ((with_reducible refine bY (f := 63) rfl ?_); refine b_ (some 36) rfl rfl Tryz.func63 (by kernel_rfl) rfl #[.int .i64 ah] rfl (by (try simp only [List.map_toArray, List.map_cons, List.map_nil]); first | done | rfl | (simp only [List.length_drop, List.length_take]; rfl)) ?_; (with_reducible refine (iX.calls ah false _ f_.out).mono ?_); rintro e w' ⟨rfl, ⟨nd, rfl⟩⟩; refine ⟨_, rfl, ?_⟩))
      go_ret
      exact ⟨by first | rfl | (simp [aQ, aR] <;> rfl) | (simp [*, aQ, aR] <;> rfl), by repeat (first | (with_reducible first | exact HB.out | apply bA | apply pN | apply au | refine bS ?_ jB.out) | exact HB.out)⟩
noncomputable def jE.f (k : Nat) (ah : Int) (av : Int) (aG : ByteArray) (aJ : Bool) (aI : Bool) : Option (Int) := (cB.f k ah av aG aJ aI).bind fun t132 => (if t132 = true then (some 0) else (some 1))
theorem jE.calls (k : Nat) (ah : Int) (av : Int) (aG : ByteArray) (aJ : Bool) (aI : Bool) (r : Int) (w : World) (HT0 : Go.Proofs.fM.jv w) (h : jE.f k ah av aG aJ aI = some r) :
 Calls Tryz.prog 14 #[.agg #[.int .i64 ah, .int .i64 av, .string aG, .bool aJ, .bool aI]] w fun e w' => e = .returned (.int .i64 r) ∧ Below w.heap.size w w' := by
 have lI := Tryz.underlying29
 have HB := am (Below.refl w.heap.size w)
 have HT := am HT0
 clear HT0
 have H : ((cB.f k ah av aG aJ aI).bind fun t132 => (if t132 = true then (some 0) else (some 1))) = some r := h
 clear h
 replace H := Option.bind_eq_some_iff.mp H
 obtain ⟨t132, f_, H⟩ := H
 replace H : (if t132 = true then (some 0) else (some 1)) = some r := H
 have A2 := am f_
 clear f_
 by_cases c3 : t132 = true
 ·subst c3
  have H1 : (some 0) = some r := by rw [if_pos rfl] at H; exact H
  clear H
  have H := H1
  clear H1
  obtain rfl := Option.some.inj H
  go_enter Tryz.func14, Tryz.ntmps14
  go_wp2_with (first | ((with_reducible refine cK (N := 1) rfl ?_); refine cO ?hg (N := 1) ?hd (cs := #[.int .i64 ah, .int .i64 av, .string aG, .bool aJ, .bool aI]) (t := 29) ?hr ?_; (case hd => rfl); (case hg => rfl); (case hr => first | (go_simp; done) | (go_simp; rfl)); intro zY hg w4 aV hb; have ay := am (bP (by repeat (first | (with_reducible first | exact HB.out | apply bA | apply pN | apply au) | exact HB.out)) hb); have aA := am (aV); have aK := am ((by rw [hg]; exact (bZ (by repeat (first | (with_reducible first | exact HB.out | apply bA | apply pN | apply au) | exact HB.out))) : w.heap.size ≤ zY)); have aU := am ((by rw [hg]; exact (bZ (by repeat (first | (with_reducible first | exact HB.out | apply bA | apply pN | apply au) | exact HB.out))) : w.heap.size ≤ zY)); clear HB; have HB := ay; have iT := aA; have ad8 := aK; have zZ := aU; clear ay aA aK aU; clear hb aV hg; have := cz iT.out 0 rfl; have := cz iT.out 1 rfl; have := cz iT.out 2 rfl; have := cz iT.out 3 rfl; have := cz iT.out 4 rfl; have := fz iT.out 0; have := fz iT.out 1; have := fz iT.out 2; have := fz iT.out 3; have := fz iT.out 4) | ((with_reducible refine bY (f := 33) rfl ?_); refine b_ (some 4) rfl rfl Tryz.func33 (by kernel_rfl) rfl #[.agg #[.int .i64 ah, .int .i64 av, .string aG, .bool aJ, .bool aI]] rfl (by (try simp only [List.map_toArray, List.map_cons, List.map_nil]); first | done | rfl | (simp only [List.length_drop, List.length_take]; rfl)) ?_; (with_reducible refine (cB.calls k ah av aG aJ aI true _ ?dB A2.out).mono ?_); (case dB => exact HT.out.below (by repeat (first | (with_reducible first | exact HB.out | apply bA | apply pN | apply au | refine bS ?_ zZ.out) | exact HB.out))); rintro e w6 ⟨rfl, hb⟩; refine ⟨_, rfl, ?_⟩; have ay := am (kB (g := zY) (o := .cells #[.int .i64 ah, .int .i64 av, .string aG, .bool aJ, .bool aI] 29 (0, 0)) (by (with_reducible repeat (first | apply kN | apply kD | apply kA)); exact iT.out) hb); have aA := am (bP (by repeat (first | (with_reducible first | exact HB.out | apply bA | apply pN | apply au | refine bS ?_ zZ.out) | exact HB.out)) hb); clear iT; clear HB; have iT := ay; have HB := aA; clear ay aA; (try clear hb); (try clear hb2); (try clear hk); (try clear hi)))
  go_ret
  exact ⟨by first | rfl | (simp [aQ, aR] <;> rfl) | (simp [*, aQ, aR] <;> rfl), by repeat (first | (with_reducible first | exact HB.out | apply bA | apply pN | apply au | refine bS ?_ zZ.out) | exact HB.out)⟩
 ·replace c3 := Bool.eq_false_iff.mpr c3
  subst c3
  have H1 : (some 1) = some r := by rw [if_neg (show ¬ (false = true) by decide)] at H; exact H
  clear H
  have H := H1
  clear H1
  obtain rfl := Option.some.inj H
  go_enter Tryz.func14, Tryz.ntmps14
  go_wp2_with (first | ((with_reducible refine cK (N := 1) rfl ?_); refine cO ?hg (N := 1) ?hd (cs := #[.int .i64 ah, .int .i64 av, .string aG, .bool aJ, .bool aI]) (t := 29) ?hr ?_; (case hd => rfl); (case hg => rfl); (case hr => first | (go_simp; done) | (go_simp; rfl)); intro zY hg w7 aV hb; have ay := am (bP (by repeat (first | (with_reducible first | exact HB.out | apply bA | apply pN | apply au) | exact HB.out)) hb); have aA := am (aV); have aK := am ((by rw [hg]; exact (bZ (by repeat (first | (with_reducible first | exact HB.out | apply bA | apply pN | apply au) | exact HB.out))) : w.heap.size ≤ zY)); have aU := am ((by rw [hg]; exact (bZ (by repeat (first | (with_reducible first | exact HB.out | apply bA | apply pN | apply au) | exact HB.out))) : w.heap.size ≤ zY)); clear HB; have HB := ay; have iT := aA; have ad8 := aK; have zZ := aU; clear ay aA aK aU; clear hb aV hg; have := cz iT.out 0 rfl; have := cz iT.out 1 rfl; have := cz iT.out 2 rfl; have := cz iT.out 3 rfl; have := cz iT.out 4 rfl; have := fz iT.out 0; have := fz iT.out 1; have := fz iT.out 2; have := fz iT.out 3; have := fz iT.out 4) | ((with_reducible refine bY (f := 33) rfl ?_); refine b_ (some 4) rfl rfl Tryz.func33 (by kernel_rfl) rfl #[.agg #[.int .i64 ah, .int .i64 av, .string aG, .bool aJ, .bool aI]] rfl (by (try simp only [List.map_toArray, List.map_cons, List.map_nil]); first | done | rfl | (simp only [List.length_drop, List.length_take]; rfl)) ?_; (with_reducible refine (cB.calls k ah av aG aJ aI false _ ?dB A2.out).mono ?_); (case dB => exact HT.out.below (by repeat (first | (with_reducible first | exact HB.out | apply bA | apply pN | apply au | refine bS ?_ zZ.out) | exact HB.out))); rintro e w9 ⟨rfl, hb⟩; refine ⟨_, rfl, ?_⟩; have ay := am (kB (g := zY) (o := .cells #[.int .i64 ah, .int .i64 av, .string aG, .bool aJ, .bool aI] 29 (0, 0)) (by (with_reducible repeat (first | apply kN | apply kD | apply kA)); exact iT.out) hb); have aA := am (bP (by repeat (first | (with_reducible first | exact HB.out | apply bA | apply pN | apply au | refine bS ?_ zZ.out) | exact HB.out)) hb); clear iT; clear HB; have iT := ay; have HB := aA; clear ay aA; (try clear hb); (try clear hb2); (try clear hk); (try clear hi)))
  go_ret
  exact ⟨by first | rfl | (simp [aQ, aR] <;> rfl) | (simp [*, aQ, aR] <;> rfl), by repeat (first | (with_reducible first | exact HB.out | apply bA | apply pN | apply au | refine bS ?_ zZ.out) | exact HB.out)⟩
end Go.Proofs.YtgliaoanlhbepaaGreatDoor.Q
