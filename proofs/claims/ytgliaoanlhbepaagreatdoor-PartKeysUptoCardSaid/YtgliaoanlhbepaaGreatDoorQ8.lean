/- Walks, printed by a program of this session: what each function of the law computes. -/
import Derived.Test.YtgliaoanlhbepaaGreatDoorQ0
import Derived.Test.YtgliaoanlhbepaaGreatDoorQ7
namespace Go.Proofs.YtgliaoanlhbepaaGreatDoor.Q
open Go.RowKit Go.Proofs.bT.eG Go.Proofs.bT.iM Go.Proofs.bT.jd
open Go.Proofs.bT.eG renaming lF → pN, lZ → au, l6 → bA, mZ → bS, m_ → bZ, ng → bP, ni → kN, nk → kD, nu → kA, ny → fz, nA → kB, lH → kL
attribute [local go_sem] nC nD nE nG nH nI nJ nK
set_option maxHeartbeats 8000000
set_option maxRecDepth 100000
set_option linter.unusedVariables false
set_option linter.unusedSimpArgs false
noncomputable def fF.l0 : Nat → ByteArray → Int → List ByteArray → Int → Option (Int × Int × Bool)
 | 0, _, _, _, _ => none
 | k + 1, x0, x1, x8, x9 => if x9 < (x8.length : Int) then (if 0 ≤ x9 then (if (wrap64 (x1 + ((fG ByteArray.empty x8 x9).size : Int))) ≤ (x0.size : Int) then (if 0 ≤ x1 then (if x1 ≤ (wrap64 (x1 + ((fG ByteArray.empty x8 x9).size : Int))) then (if (x0.extract (x1 : Int).toNat ((wrap64 (x1 + ((fG ByteArray.empty x8 x9).size : Int))) : Int).toNat).toList = (fG ByteArray.empty x8 x9).toList then (some (2, wrap64 (x1 + ((fG ByteArray.empty x8 x9).size : Int)), true)) else (fF.l0 k x0 x1 x8 (wrap64 (x9 + 1)))) else (none)) else (none)) else (fF.l0 k x0 x1 x8 (wrap64 (x9 + 1)))) else (none)) else (some (0, 0, false))
noncomputable def fF.f (k : Nat) (a0 : ByteArray) (a1 : Int) : Option (Int × Int × Bool) := if 0 ≤ a1 then (if a1 < (a0.size : Int) then ((fC.f (bt a0 a1)).bind fun t184 => (if t184 = true then ((dJ.f k a0 a1).bind fun t185 => (some (0, t185, true))) else ((iD.f (bt a0 a1)).bind fun t186 => (if t186 = true then ((dJ.f k a0 a1).bind fun t187 => (some (1, t187, true))) else (if (bt a0 a1) = 64 then (if (wrap64 (a1 + 1)) < (a0.size : Int) then (if 0 ≤ (wrap64 (a1 + 1)) then ((fC.f (bt a0 (wrap64 (a1 + 1)))).bind fun t188 => (if t188 = true then ((dJ.f k a0 (wrap64 (a1 + 1))).bind fun t189 => (some (3, t189, true))) else (some (0, 0, false)))) else (none)) else (some (0, 0, false))) else ((oP.f).bind fun t190 => (fF.l0 k a0 a1 t190 0))))))) else (none)) else (none)
theorem fF.gy : ∀ k, (∀ y0 y1 y2 y3, aN (fF.l0 k y0 y1 y2 y3) (fF.l0 (k + 1) y0 y1 y2 y3))
 | 0 => fun _ _ _ _ r h => by simp [fF.l0] at h
 | k + 1 => by
  have cZ := fF.gy k
  ·intro y0 y1 y2 y3
   unfold fF.l0
   repeat' first
   | (with_reducible exact cZ _ _ _ _)
   | (with_reducible exact dJ.mono _ _ _)
   | (with_reducible exact aN.refl _)
   | (with_reducible exact aN.none _)
   | (with_reducible refine aN.ite ?_ ?_)
   | (with_reducible refine aN.bind ?_ (fun _ => ?_))
   | exact cZ _ _ _ _
   | exact dJ.mono _ _ _
   | exact aN.none _
   | refine aN.ite ?_ ?_
   | refine aN.bind ?_ (fun _ => ?_)
theorem fF.mono : ∀ a0 a1 k, aN (fF.f k a0 a1) (fF.f (k + 1) a0 a1) := by
 intro a0 a1 k
 have cZ := fF.gy k
 unfold fF.f
 repeat' first
  | (with_reducible exact cZ _ _ _ _)
  | (with_reducible exact dJ.mono _ _ _)
  | (with_reducible exact aN.refl _)
  | (with_reducible exact aN.none _)
  | (with_reducible refine aN.ite ?_ ?_)
  | (with_reducible refine aN.bind ?_ (fun _ => ?_))
  | exact cZ _ _ _ _
  | exact dJ.mono _ _ _
  | exact aN.none _
  | refine aN.ite ?_ ?_
  | refine aN.bind ?_ (fun _ => ?_)
theorem fF.calls (k : Nat) (a0 : ByteArray) (a1 : Int) (r1 : Int) (r2 : Int) (r3 : Bool) (w : World) (h : fF.f k a0 a1 = some (r1, r2, r3)) :
 Calls Tryz.prog 323 #[.string a0, .int .i64 a1] w fun e w' => e = .returned (.tuple #[.int .i64 r1, .int .i64 r2, .bool r3]) ∧ Below w.heap.size w w' := by
 have HB := am (Below.refl w.heap.size w)
 have H : (if 0 ≤ a1 then (if a1 < (a0.size : Int) then ((fC.f (bt a0 a1)).bind fun t184 => (if t184 = true then ((dJ.f k a0 a1).bind fun t185 => (some (0, t185, true))) else ((iD.f (bt a0 a1)).bind fun t186 => (if t186 = true then ((dJ.f k a0 a1).bind fun t187 => (some (1, t187, true))) else (if (bt a0 a1) = 64 then (if (wrap64 (a1 + 1)) < (a0.size : Int) then (if 0 ≤ (wrap64 (a1 + 1)) then ((fC.f (bt a0 (wrap64 (a1 + 1)))).bind fun t188 => (if t188 = true then ((dJ.f k a0 (wrap64 (a1 + 1))).bind fun t189 => (some (3, t189, true))) else (some (0, 0, false)))) else (none)) else (some (0, 0, false))) else ((oP.f).bind fun t190 => (fF.l0 k a0 a1 t190 0))))))) else (none)) else (none)) = some (r1, r2, r3) := h
 clear h
 by_cases c3 : 0 ≤ a1
 ·rw [if_pos c3] at H
  have gH : decide (0 ≤ a1) = true := decide_eq_true c3
  clear c3
  by_cases c4 : a1 < (a0.size : Int)
  ·rw [if_pos c4] at H
   have fJ : decide (a1 < (a0.size : Int)) = true := decide_eq_true c4
   clear c4
   replace H := Option.bind_eq_some_iff.mp H
   obtain ⟨t184, lM, H⟩ := H
   replace H : (if t184 = true then ((dJ.f k a0 a1).bind fun t185 => (some (0, t185, true))) else ((iD.f (bt a0 a1)).bind fun t186 => (if t186 = true then ((dJ.f k a0 a1).bind fun t187 => (some (1, t187, true))) else (if (bt a0 a1) = 64 then (if (wrap64 (a1 + 1)) < (a0.size : Int) then (if 0 ≤ (wrap64 (a1 + 1)) then ((fC.f (bt a0 (wrap64 (a1 + 1)))).bind fun t188 => (if t188 = true then ((dJ.f k a0 (wrap64 (a1 + 1))).bind fun t189 => (some (3, t189, true))) else (some (0, 0, false)))) else (none)) else (some (0, 0, false))) else ((oP.f).bind fun t190 => (fF.l0 k a0 a1 t190 0)))))) = some (r1, r2, r3) := H
   have A6 := am lM
   clear lM
   by_cases c7 : t184 = true
   ·subst c7
    have H1 : ((dJ.f k a0 a1).bind fun t185 => (some (0, t185, true))) = some (r1, r2, r3) := by rw [if_pos rfl] at H; exact H
    clear H
    have H := H1
    clear H1
    replace H := Option.bind_eq_some_iff.mp H
    obtain ⟨t185, Ei, H⟩ := H
    replace H : (some (0, t185, true)) = some (r1, r2, r3) := H
    have A8 := am Ei
    clear Ei
    simp only [Option.some.injEq, Prod.mk.injEq] at H
    obtain ⟨rfl, rfl, rfl⟩ := H
    have p5 : 0 ≤ (a1 : Int) := of_decide_eq_true (by first | (with_reducible assumption) | assumption)
    have q5 : a1 < (a0.size : Int) := of_decide_eq_true (by first | (with_reducible assumption) | assumption)
    have hx5 := gQ a0 a1
    replace p5 := eq_true p5
    replace q5 := eq_true q5
    go_enter Tryz.func323, Tryz.ntmps323
    go_wp2_with (first | (go_at_call 365; (with_reducible refine (fC.calls (bt a0 a1) true _ A6.out).mono ?_); rintro e w' ⟨rfl, ⟨nd, rfl⟩⟩; (try first | exact ⟨rfl, _, World.drewN_drewN _ _ _⟩ | exact ⟨rfl, _, Eq.trans (World.drewN_drewN _ _ _) (congrArg (World.drewN _) (Nat.add_assoc _ _ _))⟩)) | (go_at_call 366; (with_reducible refine (dJ.calls k a0 a1 t185 _ A8.out).mono ?_); rintro e w' ⟨rfl, ⟨nd, rfl⟩⟩; (try first | exact ⟨rfl, _, World.drewN_drewN _ _ _⟩ | exact ⟨rfl, _, Eq.trans (World.drewN_drewN _ _ _) (congrArg (World.drewN _) (Nat.add_assoc _ _ _))⟩)))
    repeat (go_quiet (first | (go_at_call 365; (with_reducible refine (fC.calls (bt a0 a1) true _ A6.out).mono ?_); rintro e w' ⟨rfl, ⟨nd, rfl⟩⟩; (try first | exact ⟨rfl, _, World.drewN_drewN _ _ _⟩ | exact ⟨rfl, _, Eq.trans (World.drewN_drewN _ _ _) (congrArg (World.drewN _) (Nat.add_assoc _ _ _))⟩)) | (go_at_call 366; (with_reducible refine (dJ.calls k a0 a1 t185 _ A8.out).mono ?_); rintro e w' ⟨rfl, ⟨nd, rfl⟩⟩; (try first | exact ⟨rfl, _, World.drewN_drewN _ _ _⟩ | exact ⟨rfl, _, Eq.trans (World.drewN_drewN _ _ _) (congrArg (World.drewN _) (Nat.add_assoc _ _ _))⟩))); try go_wp2_with (first | (go_at_call 365; (with_reducible refine (fC.calls (bt a0 a1) true _ A6.out).mono ?_); rintro e w' ⟨rfl, ⟨nd, rfl⟩⟩; (try first | exact ⟨rfl, _, World.drewN_drewN _ _ _⟩ | exact ⟨rfl, _, Eq.trans (World.drewN_drewN _ _ _) (congrArg (World.drewN _) (Nat.add_assoc _ _ _))⟩)) | (go_at_call 366; (with_reducible refine (dJ.calls k a0 a1 t185 _ A8.out).mono ?_); rintro e w' ⟨rfl, ⟨nd, rfl⟩⟩; (try first | exact ⟨rfl, _, World.drewN_drewN _ _ _⟩ | exact ⟨rfl, _, Eq.trans (World.drewN_drewN _ _ _) (congrArg (World.drewN _) (Nat.add_assoc _ _ _))⟩))))
    go_ret3
    exact ⟨by first | rfl | (simp [aQ, aR] <;> rfl) | (simp [*, aQ, aR] <;> rfl), by repeat (first | (with_reducible first | exact HB.out | apply bA | apply pN | apply au) | exact HB.out)⟩
   ·replace c7 := Bool.eq_false_iff.mpr c7
    subst c7
    have H1 : ((iD.f (bt a0 a1)).bind fun t186 => (if t186 = true then ((dJ.f k a0 a1).bind fun t187 => (some (1, t187, true))) else (if (bt a0 a1) = 64 then (if (wrap64 (a1 + 1)) < (a0.size : Int) then (if 0 ≤ (wrap64 (a1 + 1)) then ((fC.f (bt a0 (wrap64 (a1 + 1)))).bind fun t188 => (if t188 = true then ((dJ.f k a0 (wrap64 (a1 + 1))).bind fun t189 => (some (3, t189, true))) else (some (0, 0, false)))) else (none)) else (some (0, 0, false))) else ((oP.f).bind fun t190 => (fF.l0 k a0 a1 t190 0))))) = some (r1, r2, r3) := by rw [if_neg (show ¬ (false = true) by decide)] at H; exact H
    clear H
    have H := H1
    clear H1
    replace H := Option.bind_eq_some_iff.mp H
    obtain ⟨t186, nP, H⟩ := H
    replace H : (if t186 = true then ((dJ.f k a0 a1).bind fun t187 => (some (1, t187, true))) else (if (bt a0 a1) = 64 then (if (wrap64 (a1 + 1)) < (a0.size : Int) then (if 0 ≤ (wrap64 (a1 + 1)) then ((fC.f (bt a0 (wrap64 (a1 + 1)))).bind fun t188 => (if t188 = true then ((dJ.f k a0 (wrap64 (a1 + 1))).bind fun t189 => (some (3, t189, true))) else (some (0, 0, false)))) else (none)) else (some (0, 0, false))) else ((oP.f).bind fun t190 => (fF.l0 k a0 a1 t190 0)))) = some (r1, r2, r3) := H
    have A9 := am nP
    clear nP
    by_cases c10 : t186 = true
    ·subst c10
     have H1 : ((dJ.f k a0 a1).bind fun t187 => (some (1, t187, true))) = some (r1, r2, r3) := by rw [if_pos rfl] at H; exact H
     clear H
     have H := H1
     clear H1
     replace H := Option.bind_eq_some_iff.mp H
     obtain ⟨t187, xA, H⟩ := H
     replace H : (some (1, t187, true)) = some (r1, r2, r3) := H
     have zM := am xA
     clear xA
     simp only [Option.some.injEq, Prod.mk.injEq] at H
     obtain ⟨rfl, rfl, rfl⟩ := H
     have p5 : 0 ≤ (a1 : Int) := of_decide_eq_true (by first | (with_reducible assumption) | assumption)
     have q5 : a1 < (a0.size : Int) := of_decide_eq_true (by first | (with_reducible assumption) | assumption)
     have hx5 := gQ a0 a1
     replace p5 := eq_true p5
     replace q5 := eq_true q5
     go_enter Tryz.func323, Tryz.ntmps323
     go_wp2_with (first | (go_at_call 365; (with_reducible refine (fC.calls (bt a0 a1) false _ A6.out).mono ?_); rintro e w' ⟨rfl, ⟨nd, rfl⟩⟩; (try first | exact ⟨rfl, _, World.drewN_drewN _ _ _⟩ | exact ⟨rfl, _, Eq.trans (World.drewN_drewN _ _ _) (congrArg (World.drewN _) (Nat.add_assoc _ _ _))⟩)) | (go_at_call 367; (with_reducible refine (iD.calls (bt a0 a1) true _ A9.out).mono ?_); rintro e w' ⟨rfl, ⟨nd, rfl⟩⟩; (try first | exact ⟨rfl, _, World.drewN_drewN _ _ _⟩ | exact ⟨rfl, _, Eq.trans (World.drewN_drewN _ _ _) (congrArg (World.drewN _) (Nat.add_assoc _ _ _))⟩)) | (go_at_call 366; (with_reducible refine (dJ.calls k a0 a1 t187 _ zM.out).mono ?_); rintro e w' ⟨rfl, ⟨nd, rfl⟩⟩; (try first | exact ⟨rfl, _, World.drewN_drewN _ _ _⟩ | exact ⟨rfl, _, Eq.trans (World.drewN_drewN _ _ _) (congrArg (World.drewN _) (Nat.add_assoc _ _ _))⟩)))
     repeat (go_quiet (first | (go_at_call 365; (with_reducible refine (fC.calls (bt a0 a1) false _ A6.out).mono ?_); rintro e w' ⟨rfl, ⟨nd, rfl⟩⟩; (try first | exact ⟨rfl, _, World.drewN_drewN _ _ _⟩ | exact ⟨rfl, _, Eq.trans (World.drewN_drewN _ _ _) (congrArg (World.drewN _) (Nat.add_assoc _ _ _))⟩)) | (go_at_call 367; (with_reducible refine (iD.calls (bt a0 a1) true _ A9.out).mono ?_); rintro e w' ⟨rfl, ⟨nd, rfl⟩⟩; (try first | exact ⟨rfl, _, World.drewN_drewN _ _ _⟩ | exact ⟨rfl, _, Eq.trans (World.drewN_drewN _ _ _) (congrArg (World.drewN _) (Nat.add_assoc _ _ _))⟩)) | (go_at_call 366; (with_reducible refine (dJ.calls k a0 a1 t187 _ zM.out).mono ?_); rintro e w' ⟨rfl, ⟨nd, rfl⟩⟩; (try first | exact ⟨rfl, _, World.drewN_drewN _ _ _⟩ | exact ⟨rfl, _, Eq.trans (World.drewN_drewN _ _ _) (congrArg (World.drewN _) (Nat.add_assoc _ _ _))⟩))); try go_wp2_with (first | (go_at_call 365; (with_reducible refine (fC.calls (bt a0 a1) false _ A6.out).mono ?_); rintro e w' ⟨rfl, ⟨nd, rfl⟩⟩; (try first | exact ⟨rfl, _, World.drewN_drewN _ _ _⟩ | exact ⟨rfl, _, Eq.trans (World.drewN_drewN _ _ _) (congrArg (World.drewN _) (Nat.add_assoc _ _ _))⟩)) | (go_at_call 367; (with_reducible refine (iD.calls (bt a0 a1) true _ A9.out).mono ?_); rintro e w' ⟨rfl, ⟨nd, rfl⟩⟩; (try first | exact ⟨rfl, _, World.drewN_drewN _ _ _⟩ | exact ⟨rfl, _, Eq.trans (World.drewN_drewN _ _ _) (congrArg (World.drewN _) (Nat.add_assoc _ _ _))⟩)) | (go_at_call 366; (with_reducible refine (dJ.calls k a0 a1 t187 _ zM.out).mono ?_); rintro e w' ⟨rfl, ⟨nd, rfl⟩⟩; (try first | exact ⟨rfl, _, World.drewN_drewN _ _ _⟩ | exact ⟨rfl, _, Eq.trans (World.drewN_drewN _ _ _) (congrArg (World.drewN _) (Nat.add_assoc _ _ _))⟩))))
     go_ret3
     exact ⟨by first | rfl | (simp [aQ, aR] <;> rfl) | (simp [*, aQ, aR] <;> rfl), by repeat (first | (with_reducible first | exact HB.out | apply bA | apply pN | apply au) | exact HB.out)⟩
    ·replace c10 := Bool.eq_false_iff.mpr c10
     subst c10
     have H1 : (if (bt a0 a1) = 64 then (if (wrap64 (a1 + 1)) < (a0.size : Int) then (if 0 ≤ (wrap64 (a1 + 1)) then ((fC.f (bt a0 (wrap64 (a1 + 1)))).bind fun t188 => (if t188 = true then ((dJ.f k a0 (wrap64 (a1 + 1))).bind fun t189 => (some (3, t189, true))) else (some (0, 0, false)))) else (none)) else (some (0, 0, false))) else ((oP.f).bind fun t190 => (fF.l0 k a0 a1 t190 0))) = some (r1, r2, r3) := by rw [if_neg (show ¬ (false = true) by decide)] at H; exact H
     clear H
     have H := H1
     clear H1
     by_cases c12 : (bt a0 a1) = 64
     ·rw [if_pos c12] at H
      have wT : ((bt a0 a1) == 64) = true := beq_iff_eq.mpr c12
      have wU : ((bt a0 a1) != 64) = false := bne_eq_false_iff_eq.mpr c12
      clear c12
      by_cases c13 : (wrap64 (a1 + 1)) < (a0.size : Int)
      ·rw [if_pos c13] at H
       have kY : decide ((wrap64 (a1 + 1)) < (a0.size : Int)) = true := decide_eq_true c13
       clear c13
       obtain ⟨gJ, xJ⟩ : ∃ j_ : Int, (wrap64 (a1 + 1)) = j_ := ⟨_, rfl⟩
       replace H : (if 0 ≤ (gJ) then ((fC.f (bt a0 (gJ))).bind fun t188 => (if t188 = true then ((dJ.f k a0 (gJ)).bind fun t189 => (some (3, t189, true))) else (some (0, 0, false)))) else (none)) = some (r1, r2, r3) := by first | (rw [xJ] at H; exact H) | (simp only [xJ] at H ⊢; exact H)
       (try rw [xJ] at kY)
       (try rw [xJ] at A6)
       (try rw [xJ] at A9)
       have auj : (IntKind.i64.wrap (a1 + 1)) = gJ := (dS _).trans xJ
       by_cases c15 : 0 ≤ (gJ)
       ·rw [if_pos c15] at H
        have sV : decide (0 ≤ (gJ)) = true := decide_eq_true c15
        clear c15
        replace H := Option.bind_eq_some_iff.mp H
        obtain ⟨t188, xk, H⟩ := H
        replace H : (if t188 = true then ((dJ.f k a0 (gJ)).bind fun t189 => (some (3, t189, true))) else (some (0, 0, false))) = some (r1, r2, r3) := H
        have qw := am xk
        clear xk
        by_cases c18 : t188 = true
        ·subst c18
         have H1 : ((dJ.f k a0 (gJ)).bind fun t189 => (some (3, t189, true))) = some (r1, r2, r3) := by rw [if_pos rfl] at H; exact H
         clear H
         have H := H1
         clear H1
         replace H := Option.bind_eq_some_iff.mp H
         obtain ⟨t189, TW, H⟩ := H
         replace H : (some (3, t189, true)) = some (r1, r2, r3) := H
         have NH := am TW
         clear TW
         simp only [Option.some.injEq, Prod.mk.injEq] at H
         obtain ⟨rfl, rfl, rfl⟩ := H
         have p5 : 0 ≤ (a1 : Int) := of_decide_eq_true (by first | (with_reducible assumption) | assumption)
         have q5 : a1 < (a0.size : Int) := of_decide_eq_true (by first | (with_reducible assumption) | assumption)
         have hx5 := gQ a0 a1
         replace p5 := eq_true p5
         replace q5 := eq_true q5
         go_enter Tryz.func323, Tryz.ntmps323
         go_wp2_with (first | (go_at_call 365; (with_reducible refine (fC.calls (bt a0 a1) false _ A6.out).mono ?_); rintro e w' ⟨rfl, ⟨nd, rfl⟩⟩; (try first | exact ⟨rfl, _, World.drewN_drewN _ _ _⟩ | exact ⟨rfl, _, Eq.trans (World.drewN_drewN _ _ _) (congrArg (World.drewN _) (Nat.add_assoc _ _ _))⟩)) | (go_at_call 367; (with_reducible refine (iD.calls (bt a0 a1) false _ A9.out).mono ?_); rintro e w' ⟨rfl, ⟨nd, rfl⟩⟩; (try first | exact ⟨rfl, _, World.drewN_drewN _ _ _⟩ | exact ⟨rfl, _, Eq.trans (World.drewN_drewN _ _ _) (congrArg (World.drewN _) (Nat.add_assoc _ _ _))⟩); have p16 : 0 ≤ ((gJ) : Int) := of_decide_eq_true (by first | (with_reducible assumption) | assumption); have q16 : (gJ) < (a0.size : Int) := of_decide_eq_true (by first | (with_reducible assumption) | assumption); have hx16 := gQ a0 (gJ); replace p16 := eq_true p16; replace q16 := eq_true q16) | (go_at_call 365; (with_reducible refine (fC.calls (bt a0 (gJ)) true _ qw.out).mono ?_); rintro e w' ⟨rfl, ⟨nd, rfl⟩⟩; (try first | exact ⟨rfl, _, World.drewN_drewN _ _ _⟩ | exact ⟨rfl, _, Eq.trans (World.drewN_drewN _ _ _) (congrArg (World.drewN _) (Nat.add_assoc _ _ _))⟩)) | (go_at_call 366; (with_reducible refine (dJ.calls k a0 gJ t189 _ NH.out).mono ?_); rintro e w' ⟨rfl, ⟨nd, rfl⟩⟩; (try first | exact ⟨rfl, _, World.drewN_drewN _ _ _⟩ | exact ⟨rfl, _, Eq.trans (World.drewN_drewN _ _ _) (congrArg (World.drewN _) (Nat.add_assoc _ _ _))⟩)))
         repeat (go_quiet (first | (go_at_call 365; (with_reducible refine (fC.calls (bt a0 a1) false _ A6.out).mono ?_); rintro e w' ⟨rfl, ⟨nd, rfl⟩⟩; (try first | exact ⟨rfl, _, World.drewN_drewN _ _ _⟩ | exact ⟨rfl, _, Eq.trans (World.drewN_drewN _ _ _) (congrArg (World.drewN _) (Nat.add_assoc _ _ _))⟩)) | (go_at_call 367; (with_reducible refine (iD.calls (bt a0 a1) false _ A9.out).mono ?_); rintro e w' ⟨rfl, ⟨nd, rfl⟩⟩; (try first | exact ⟨rfl, _, World.drewN_drewN _ _ _⟩ | exact ⟨rfl, _, Eq.trans (World.drewN_drewN _ _ _) (congrArg (World.drewN _) (Nat.add_assoc _ _ _))⟩); have p16 : 0 ≤ ((gJ) : Int) := of_decide_eq_true (by first | (with_reducible assumption) | assumption); have q16 : (gJ) < (a0.size : Int) := of_decide_eq_true (by first | (with_reducible assumption) | assumption); have hx16 := gQ a0 (gJ); replace p16 := eq_true p16; replace q16 := eq_true q16) | (go_at_call 365; (with_reducible refine (fC.calls (bt a0 (gJ)) true _ qw.out).mono ?_); rintro e w' ⟨rfl, ⟨nd, rfl⟩⟩; (try first | exact ⟨rfl, _, World.drewN_drewN _ _ _⟩ | exact ⟨rfl, _, Eq.trans (World.drewN_drewN _ _ _) (congrArg (World.drewN _) (Nat.add_assoc _ _ _))⟩)) | (go_at_call 366; (with_reducible refine (dJ.calls k a0 gJ t189 _ NH.out).mono ?_); rintro e w' ⟨rfl, ⟨nd, rfl⟩⟩; (try first | exact ⟨rfl, _, World.drewN_drewN _ _ _⟩ | exact ⟨rfl, _, Eq.trans (World.drewN_drewN _ _ _) (congrArg (World.drewN _) (Nat.add_assoc _ _ _))⟩))); try go_wp2_with (first | (go_at_call 365; (with_reducible refine (fC.calls (bt a0 a1) false _ A6.out).mono ?_); rintro e w' ⟨rfl, ⟨nd, rfl⟩⟩; (try first | exact ⟨rfl, _, World.drewN_drewN _ _ _⟩ | exact ⟨rfl, _, Eq.trans (World.drewN_drewN _ _ _) (congrArg (World.drewN _) (Nat.add_assoc _ _ _))⟩)) | (go_at_call 367; (with_reducible refine (iD.calls (bt a0 a1) false _ A9.out).mono ?_); rintro e w' ⟨rfl, ⟨nd, rfl⟩⟩; (try first | exact ⟨rfl, _, World.drewN_drewN _ _ _⟩ | exact ⟨rfl, _, Eq.trans (World.drewN_drewN _ _ _) (congrArg (World.drewN _) (Nat.add_assoc _ _ _))⟩); have p16 : 0 ≤ ((gJ) : Int) := of_decide_eq_true (by first | (with_reducible assumption) | assumption); have q16 : (gJ) < (a0.size : Int) := of_decide_eq_true (by first | (with_reducible assumption) | assumption); have hx16 := gQ a0 (gJ); replace p16 := eq_true p16; replace q16 := eq_true q16) | (go_at_call 365; (with_reducible refine (fC.calls (bt a0 (gJ)) true _ qw.out).mono ?_); rintro e w' ⟨rfl, ⟨nd, rfl⟩⟩; (try first | exact ⟨rfl, _, World.drewN_drewN _ _ _⟩ | exact ⟨rfl, _, Eq.trans (World.drewN_drewN _ _ _) (congrArg (World.drewN _) (Nat.add_assoc _ _ _))⟩)) | (go_at_call 366; (with_reducible refine (dJ.calls k a0 gJ t189 _ NH.out).mono ?_); rintro e w' ⟨rfl, ⟨nd, rfl⟩⟩; (try first | exact ⟨rfl, _, World.drewN_drewN _ _ _⟩ | exact ⟨rfl, _, Eq.trans (World.drewN_drewN _ _ _) (congrArg (World.drewN _) (Nat.add_assoc _ _ _))⟩))))
         go_ret3
         exact ⟨by first | rfl | (simp [aQ, aR] <;> rfl) | (simp only [← xJ]; first | rfl | (simp [aQ, aR] <;> rfl)) | (simp [*, aQ, aR] <;> rfl), by repeat (first | (with_reducible first | exact HB.out | apply bA | apply pN | apply au) | exact HB.out)⟩
        ·replace c18 := Bool.eq_false_iff.mpr c18
         subst c18
         have H1 : (some (0, 0, false)) = some (r1, r2, r3) := by rw [if_neg (show ¬ (false = true) by decide)] at H; exact H
         clear H
         have H := H1
         clear H1
         simp only [Option.some.injEq, Prod.mk.injEq] at H
         obtain ⟨rfl, rfl, rfl⟩ := H
         have p5 : 0 ≤ (a1 : Int) := of_decide_eq_true (by first | (with_reducible assumption) | assumption)
         have q5 : a1 < (a0.size : Int) := of_decide_eq_true (by first | (with_reducible assumption) | assumption)
         have hx5 := gQ a0 a1
         replace p5 := eq_true p5
         replace q5 := eq_true q5
         go_enter Tryz.func323, Tryz.ntmps323
         go_wp2_with (first | (go_at_call 365; (with_reducible refine (fC.calls (bt a0 a1) false _ A6.out).mono ?_); rintro e w' ⟨rfl, ⟨nd, rfl⟩⟩; (try first | exact ⟨rfl, _, World.drewN_drewN _ _ _⟩ | exact ⟨rfl, _, Eq.trans (World.drewN_drewN _ _ _) (congrArg (World.drewN _) (Nat.add_assoc _ _ _))⟩)) | (go_at_call 367; (with_reducible refine (iD.calls (bt a0 a1) false _ A9.out).mono ?_); rintro e w' ⟨rfl, ⟨nd, rfl⟩⟩; (try first | exact ⟨rfl, _, World.drewN_drewN _ _ _⟩ | exact ⟨rfl, _, Eq.trans (World.drewN_drewN _ _ _) (congrArg (World.drewN _) (Nat.add_assoc _ _ _))⟩); have p16 : 0 ≤ ((gJ) : Int) := of_decide_eq_true (by first | (with_reducible assumption) | assumption); have q16 : (gJ) < (a0.size : Int) := of_decide_eq_true (by first | (with_reducible assumption) | assumption); have hx16 := gQ a0 (gJ); replace p16 := eq_true p16; replace q16 := eq_true q16) | (go_at_call 365; (with_reducible refine (fC.calls (bt a0 (gJ)) false _ qw.out).mono ?_); rintro e w' ⟨rfl, ⟨nd, rfl⟩⟩; (try first | exact ⟨rfl, _, World.drewN_drewN _ _ _⟩ | exact ⟨rfl, _, Eq.trans (World.drewN_drewN _ _ _) (congrArg (World.drewN _) (Nat.add_assoc _ _ _))⟩)))
         repeat (go_quiet (first | (go_at_call 365; (with_reducible refine (fC.calls (bt a0 a1) false _ A6.out).mono ?_); rintro e w' ⟨rfl, ⟨nd, rfl⟩⟩; (try first | exact ⟨rfl, _, World.drewN_drewN _ _ _⟩ | exact ⟨rfl, _, Eq.trans (World.drewN_drewN _ _ _) (congrArg (World.drewN _) (Nat.add_assoc _ _ _))⟩)) | (go_at_call 367; (with_reducible refine (iD.calls (bt a0 a1) false _ A9.out).mono ?_); rintro e w' ⟨rfl, ⟨nd, rfl⟩⟩; (try first | exact ⟨rfl, _, World.drewN_drewN _ _ _⟩ | exact ⟨rfl, _, Eq.trans (World.drewN_drewN _ _ _) (congrArg (World.drewN _) (Nat.add_assoc _ _ _))⟩); have p16 : 0 ≤ ((gJ) : Int) := of_decide_eq_true (by first | (with_reducible assumption) | assumption); have q16 : (gJ) < (a0.size : Int) := of_decide_eq_true (by first | (with_reducible assumption) | assumption); have hx16 := gQ a0 (gJ); replace p16 := eq_true p16; replace q16 := eq_true q16) | (go_at_call 365; (with_reducible refine (fC.calls (bt a0 (gJ)) false _ qw.out).mono ?_); rintro e w' ⟨rfl, ⟨nd, rfl⟩⟩; (try first | exact ⟨rfl, _, World.drewN_drewN _ _ _⟩ | exact ⟨rfl, _, Eq.trans (World.drewN_drewN _ _ _) (congrArg (World.drewN _) (Nat.add_assoc _ _ _))⟩))); try go_wp2_with (first | (go_at_call 365; (with_reducible refine (fC.calls (bt a0 a1) false _ A6.out).mono ?_); rintro e w' ⟨rfl, ⟨nd, rfl⟩⟩; (try first | exact ⟨rfl, _, World.drewN_drewN _ _ _⟩ | exact ⟨rfl, _, Eq.trans (World.drewN_drewN _ _ _) (congrArg (World.drewN _) (Nat.add_assoc _ _ _))⟩)) | (go_at_call 367; (with_reducible refine (iD.calls (bt a0 a1) false _ A9.out).mono ?_); rintro e w' ⟨rfl, ⟨nd, rfl⟩⟩; (try first | exact ⟨rfl, _, World.drewN_drewN _ _ _⟩ | exact ⟨rfl, _, Eq.trans (World.drewN_drewN _ _ _) (congrArg (World.drewN _) (Nat.add_assoc _ _ _))⟩); have p16 : 0 ≤ ((gJ) : Int) := of_decide_eq_true (by first | (with_reducible assumption) | assumption); have q16 : (gJ) < (a0.size : Int) := of_decide_eq_true (by first | (with_reducible assumption) | assumption); have hx16 := gQ a0 (gJ); replace p16 := eq_true p16; replace q16 := eq_true q16) | (go_at_call 365; (with_reducible refine (fC.calls (bt a0 (gJ)) false _ qw.out).mono ?_); rintro e w' ⟨rfl, ⟨nd, rfl⟩⟩; (try first | exact ⟨rfl, _, World.drewN_drewN _ _ _⟩ | exact ⟨rfl, _, Eq.trans (World.drewN_drewN _ _ _) (congrArg (World.drewN _) (Nat.add_assoc _ _ _))⟩))))
         go_ret3
         exact ⟨by first | rfl | (simp [aQ, aR] <;> rfl) | (simp only [← xJ]; first | rfl | (simp [aQ, aR] <;> rfl)) | (simp [*, aQ, aR] <;> rfl), by repeat (first | (with_reducible first | exact HB.out | apply bA | apply pN | apply au) | exact HB.out)⟩
       ·rw [if_neg c15] at H
        exact absurd H (by simp)
      ·rw [if_neg c13] at H
       have kY : decide ((wrap64 (a1 + 1)) < (a0.size : Int)) = false := decide_eq_false c13
       clear c13
       simp only [Option.some.injEq, Prod.mk.injEq] at H
       obtain ⟨rfl, rfl, rfl⟩ := H
       have p5 : 0 ≤ (a1 : Int) := of_decide_eq_true (by first | (with_reducible assumption) | assumption)
       have q5 : a1 < (a0.size : Int) := of_decide_eq_true (by first | (with_reducible assumption) | assumption)
       have hx5 := gQ a0 a1
       replace p5 := eq_true p5
       replace q5 := eq_true q5
       go_enter Tryz.func323, Tryz.ntmps323
       go_wp2_with (first | (go_at_call 365; (with_reducible refine (fC.calls (bt a0 a1) false _ A6.out).mono ?_); rintro e w' ⟨rfl, ⟨nd, rfl⟩⟩; (try first | exact ⟨rfl, _, World.drewN_drewN _ _ _⟩ | exact ⟨rfl, _, Eq.trans (World.drewN_drewN _ _ _) (congrArg (World.drewN _) (Nat.add_assoc _ _ _))⟩)) | (go_at_call 367; (with_reducible refine (iD.calls (bt a0 a1) false _ A9.out).mono ?_); rintro e w' ⟨rfl, ⟨nd, rfl⟩⟩; (try first | exact ⟨rfl, _, World.drewN_drewN _ _ _⟩ | exact ⟨rfl, _, Eq.trans (World.drewN_drewN _ _ _) (congrArg (World.drewN _) (Nat.add_assoc _ _ _))⟩)))
       repeat (go_quiet (first | (go_at_call 365; (with_reducible refine (fC.calls (bt a0 a1) false _ A6.out).mono ?_); rintro e w' ⟨rfl, ⟨nd, rfl⟩⟩; (try first | exact ⟨rfl, _, World.drewN_drewN _ _ _⟩ | exact ⟨rfl, _, Eq.trans (World.drewN_drewN _ _ _) (congrArg (World.drewN _) (Nat.add_assoc _ _ _))⟩)) | (go_at_call 367; (with_reducible refine (iD.calls (bt a0 a1) false _ A9.out).mono ?_); rintro e w' ⟨rfl, ⟨nd, rfl⟩⟩; (try first | exact ⟨rfl, _, World.drewN_drewN _ _ _⟩ | exact ⟨rfl, _, Eq.trans (World.drewN_drewN _ _ _) (congrArg (World.drewN _) (Nat.add_assoc _ _ _))⟩))); try go_wp2_with (first | (go_at_call 365; (with_reducible refine (fC.calls (bt a0 a1) false _ A6.out).mono ?_); rintro e w' ⟨rfl, ⟨nd, rfl⟩⟩; (try first | exact ⟨rfl, _, World.drewN_drewN _ _ _⟩ | exact ⟨rfl, _, Eq.trans (World.drewN_drewN _ _ _) (congrArg (World.drewN _) (Nat.add_assoc _ _ _))⟩)) | (go_at_call 367; (with_reducible refine (iD.calls (bt a0 a1) false _ A9.out).mono ?_); rintro e w' ⟨rfl, ⟨nd, rfl⟩⟩; (try first | exact ⟨rfl, _, World.drewN_drewN _ _ _⟩ | exact ⟨rfl, _, Eq.trans (World.drewN_drewN _ _ _) (congrArg (World.drewN _) (Nat.add_assoc _ _ _))⟩))))
       go_ret3
       exact ⟨by first | rfl | (simp [aQ, aR] <;> rfl) | (simp [*, aQ, aR] <;> rfl), by repeat (first | (with_reducible first | exact HB.out | apply bA | apply pN | apply au) | exact HB.out)⟩
     ·rw [if_neg c12] at H
      have wT : ((bt a0 a1) == 64) = false := beq_eq_false_iff_ne.mpr c12
      have wU : ((bt a0 a1) != 64) = true := bne_iff_ne.mpr c12
      replace H := Option.bind_eq_some_iff.mp H
      obtain ⟨t190, xu, H⟩ := H
      replace H : (fF.l0 k a0 a1 t190 0) = some (r1, r2, r3) := H
      have f_ := am xu
      clear xu
      have H' := am H
      clear H
      have p5 : 0 ≤ (a1 : Int) := of_decide_eq_true (by first | (with_reducible assumption) | assumption)
      have q5 : a1 < (a0.size : Int) := of_decide_eq_true (by first | (with_reducible assumption) | assumption)
      have hx5 := gQ a0 a1
      replace p5 := eq_true p5
      replace q5 := eq_true q5
      go_enter Tryz.func323, Tryz.ntmps323
      go_wp2_with (first | (go_at_call 365; (with_reducible refine (fC.calls (bt a0 a1) false _ A6.out).mono ?_); rintro e w' ⟨rfl, ⟨nd, rfl⟩⟩; (try first | exact ⟨rfl, _, World.drewN_drewN _ _ _⟩ | exact ⟨rfl, _, Eq.trans (World.drewN_drewN _ _ _) (congrArg (World.drewN _) (Nat.add_assoc _ _ _))⟩)) | (go_at_call 367; (with_reducible refine (iD.calls (bt a0 a1) false _ A9.out).mono ?_); rintro e w' ⟨rfl, ⟨nd, rfl⟩⟩; (try first | exact ⟨rfl, _, World.drewN_drewN _ _ _⟩ | exact ⟨rfl, _, Eq.trans (World.drewN_drewN _ _ _) (congrArg (World.drewN _) (Nat.add_assoc _ _ _))⟩)) | (go_at_call 368; (with_reducible refine (oP.calls  t190 _ f_.out).mono ?_); rintro e Eh ⟨NI, rfl, ho0, hb⟩; have ay := am (Kd.sZ ho0 (bZ (by repeat (first | (with_reducible first | exact HB.out | apply bA | apply pN | apply au) | exact HB.out)))); have aA := am (bP (by repeat (first | (with_reducible first | exact HB.out | apply bA | apply pN | apply au) | exact HB.out)) hb); clear HB; have NJ := ay; have HB := aA; clear ay aA; (try clear hb); (try clear hb2); (try clear hk); (try clear hi); (try clear ho0)))
      repeat (go_quiet (first | (go_at_call 365; (with_reducible refine (fC.calls (bt a0 a1) false _ A6.out).mono ?_); rintro e w' ⟨rfl, ⟨nd, rfl⟩⟩; (try first | exact ⟨rfl, _, World.drewN_drewN _ _ _⟩ | exact ⟨rfl, _, Eq.trans (World.drewN_drewN _ _ _) (congrArg (World.drewN _) (Nat.add_assoc _ _ _))⟩)) | (go_at_call 367; (with_reducible refine (iD.calls (bt a0 a1) false _ A9.out).mono ?_); rintro e w' ⟨rfl, ⟨nd, rfl⟩⟩; (try first | exact ⟨rfl, _, World.drewN_drewN _ _ _⟩ | exact ⟨rfl, _, Eq.trans (World.drewN_drewN _ _ _) (congrArg (World.drewN _) (Nat.add_assoc _ _ _))⟩)) | (go_at_call 368; (with_reducible refine (oP.calls  t190 _ f_.out).mono ?_); rintro e Eh ⟨NI, rfl, ho0, hb⟩; have ay := am (Kd.sZ ho0 (bZ (by repeat (first | (with_reducible first | exact HB.out | apply bA | apply pN | apply au) | exact HB.out)))); have aA := am (bP (by repeat (first | (with_reducible first | exact HB.out | apply bA | apply pN | apply au) | exact HB.out)) hb); clear HB; have NJ := ay; have HB := aA; clear ay aA; (try clear hb); (try clear hb2); (try clear hk); (try clear hi); (try clear ho0))); try go_wp2_with (first | (go_at_call 365; (with_reducible refine (fC.calls (bt a0 a1) false _ A6.out).mono ?_); rintro e w' ⟨rfl, ⟨nd, rfl⟩⟩; (try first | exact ⟨rfl, _, World.drewN_drewN _ _ _⟩ | exact ⟨rfl, _, Eq.trans (World.drewN_drewN _ _ _) (congrArg (World.drewN _) (Nat.add_assoc _ _ _))⟩)) | (go_at_call 367; (with_reducible refine (iD.calls (bt a0 a1) false _ A9.out).mono ?_); rintro e w' ⟨rfl, ⟨nd, rfl⟩⟩; (try first | exact ⟨rfl, _, World.drewN_drewN _ _ _⟩ | exact ⟨rfl, _, Eq.trans (World.drewN_drewN _ _ _) (congrArg (World.drewN _) (Nat.add_assoc _ _ _))⟩)) | (go_at_call 368; (with_reducible refine (oP.calls  t190 _ f_.out).mono ?_); rintro e Eh ⟨NI, rfl, ho0, hb⟩; have ay := am (Kd.sZ ho0 (bZ (by repeat (first | (with_reducible first | exact HB.out | apply bA | apply pN | apply au) | exact HB.out)))); have aA := am (bP (by repeat (first | (with_reducible first | exact HB.out | apply bA | apply pN | apply au) | exact HB.out)) hb); clear HB; have NJ := ay; have HB := aA; clear ay aA; (try clear hb); (try clear hb2); (try clear hk); (try clear hi); (try clear ho0))))
      go_loopg [9] k (fun kq v9 w' => ∃ (fQ : Int), v9 = .int .i64 fQ ∧ bI (fF.l0 kq a0 a1 t190 fQ = some (r1, r2, r3)) ∧ bI (kq ≤ k) ∧ bI (Kd.R Kd.string 9 w' w.heap.size (fun _ => True) NI t190) ∧ bI (Below w.heap.size w w'))
      case atStart => exact ⟨(0), (by first | rfl | (simp; done) | (simp [*]; done)), H', ⟨Nat.le_refl _⟩, ⟨by (with_reducible repeat (first | apply Kd.kK | apply Kd.ku | apply Kd.kM)); exact NJ.out⟩, ⟨by repeat (first | (with_reducible first | exact HB.out | apply bA | apply pN | apply au) | exact HB.out)⟩⟩
      case round =>
       clear H'
       try clear c1
       try clear p1
       try clear q1
       try clear hx1
       try clear p2
       try clear c3
       try clear gH
       try clear c4
       try clear fJ
       try clear p5
       try clear q5
       try clear hx5
       try clear p6
       try clear c7
       try clear c10
       try clear c12
       try clear wT
       try clear wU
       try clear c13
       try clear kY
       try clear c15
       try clear sV
       try clear p16
       try clear q16
       try clear hx16
       try clear c18
       try clear p16
       try clear p5
       try clear q16
       try clear q5
       obtain ⟨fQ, rfl, HA, eu, rP, HB⟩ := hrel
       cases gk with
       | zero => exact absurd HA.out (by simp [fF.l0])
       | succ k1 =>
        have H := HA.out
        clear HA
        simp only [fF.l0] at H
        by_cases iQ : fQ < (t190.length : Int)
        ·rw [if_pos iQ] at H
         have sQ : decide (fQ < (t190.length : Int)) = true := decide_eq_true iQ
         clear iQ
         by_cases c23 : 0 ≤ fQ
         ·rw [if_pos c23] at H
          have uz : decide (0 ≤ fQ) = true := decide_eq_true c23
          clear c23
          by_cases c24 : (wrap64 (a1 + ((fG ByteArray.empty t190 fQ).size : Int))) ≤ (a0.size : Int)
          ·rw [if_pos c24] at H
           have y7 : decide ((wrap64 (a1 + ((fG ByteArray.empty t190 fQ).size : Int))) ≤ (a0.size : Int)) = true := decide_eq_true c24
           clear c24
           by_cases iZ : 0 ≤ a1
           ·rw [if_pos iZ] at H
            have Lg := eq_true iZ
            have Lh : decide (0 ≤ a1) = true := decide_eq_true iZ
            clear iZ
            by_cases lK : a1 ≤ (wrap64 (a1 + ((fG ByteArray.empty t190 fQ).size : Int)))
            ·rw [if_pos lK] at H
             have Tn := eq_true lK
             have Tp : decide (a1 ≤ (wrap64 (a1 + ((fG ByteArray.empty t190 fQ).size : Int)))) = true := decide_eq_true lK
             have Tq := eq_true (of_decide_eq_true (by first | (with_reducible assumption) | assumption) : (wrap64 (a1 + ((fG ByteArray.empty t190 fQ).size : Int))) ≤ (a0.size : Int))
             by_cases c28 : (a0.extract (a1 : Int).toNat ((wrap64 (a1 + ((fG ByteArray.empty t190 fQ).size : Int))) : Int).toNat).toList = (fG ByteArray.empty t190 fQ).toList
             ·rw [if_pos c28] at H
              have afm : ((a0.extract (a1 : Int).toNat ((wrap64 (a1 + ((fG ByteArray.empty t190 fQ).size : Int))) : Int).toNat).toList == (fG ByteArray.empty t190 fQ).toList) = true := beq_iff_eq.mpr c28
              have afn : ((a0.extract (a1 : Int).toNat ((wrap64 (a1 + ((fG ByteArray.empty t190 fQ).size : Int))) : Int).toNat).toList != (fG ByteArray.empty t190 fQ).toList) = false := bne_eq_false_iff_eq.mpr c28
              clear c28
              simp only [Option.some.injEq, Prod.mk.injEq] at H
              obtain ⟨rfl, rfl, rfl⟩ := H
              obtain ⟨auk, aul, afo⟩ := Kd.rO rP.out
              subst afo
              have rQ : 0 ≤ (fQ : Int) := of_decide_eq_true (by first | (with_reducible assumption) | assumption)
              have rR : fQ < (t190.length : Int) := of_decide_eq_true (by first | (with_reducible assumption) | assumption)
              obtain ⟨Ib, EP, TY⟩ := Kd.vK (Kd.pq rP.out).2.2 fQ rQ rR
              cases EP
              replace rQ := eq_true rQ
              replace rR := eq_true rR
              have Ay : 0 ≤ (fQ : Int) := of_decide_eq_true (by first | (with_reducible assumption) | assumption)
              have Az : fQ < (t190.length : Int) := of_decide_eq_true (by first | (with_reducible assumption) | assumption)
              obtain ⟨NK, NM, afp⟩ := Kd.vK (Kd.pq rP.out).2.2 fQ Ay Az
              obtain rfl : Ib = NK := (by injection NM)
              replace Ay := eq_true Ay
              replace Az := eq_true Az
              go_wp2
              repeat (go_quiet (fail); try go_wp2)
              go_ret3
              exact ⟨by first | rfl | (simp [aQ, aR] <;> rfl) | (simp [*, aQ, aR] <;> rfl), by repeat (first | (with_reducible first | exact HB.out | apply bA | apply pN | apply au) | exact HB.out)⟩
             ·rw [if_neg c28] at H
              have afm : ((a0.extract (a1 : Int).toNat ((wrap64 (a1 + ((fG ByteArray.empty t190 fQ).size : Int))) : Int).toNat).toList == (fG ByteArray.empty t190 fQ).toList) = false := beq_eq_false_iff_ne.mpr c28
              have afn : ((a0.extract (a1 : Int).toNat ((wrap64 (a1 + ((fG ByteArray.empty t190 fQ).size : Int))) : Int).toNat).toList != (fG ByteArray.empty t190 fQ).toList) = true := bne_iff_ne.mpr c28
              have H' := am H
              clear H
              obtain ⟨aum, aun, afq⟩ := Kd.rO rP.out
              subst afq
              have rQ : 0 ≤ (fQ : Int) := of_decide_eq_true (by first | (with_reducible assumption) | assumption)
              have rR : fQ < (t190.length : Int) := of_decide_eq_true (by first | (with_reducible assumption) | assumption)
              obtain ⟨Ib, EP, TY⟩ := Kd.vK (Kd.pq rP.out).2.2 fQ rQ rR
              cases EP
              replace rQ := eq_true rQ
              replace rR := eq_true rR
              have Ay : 0 ≤ (fQ : Int) := of_decide_eq_true (by first | (with_reducible assumption) | assumption)
              have Az : fQ < (t190.length : Int) := of_decide_eq_true (by first | (with_reducible assumption) | assumption)
              obtain ⟨NK, NM, afp⟩ := Kd.vK (Kd.pq rP.out).2.2 fQ Ay Az
              obtain rfl : Ib = NK := (by injection NM)
              replace Ay := eq_true Ay
              replace Az := eq_true Az
              go_wp2
              repeat (go_quiet (fail); try go_wp2)
              go_roundg k1
              case measure => have := eu.out; omega
              case rel => exact ⟨(wrap64 (fQ + 1)), (by first | rfl | (simp; done) | (simp [*]; done)), H', ⟨by have := eu.out; omega⟩, ⟨by (with_reducible repeat (first | apply Kd.kK | apply Kd.ku | apply Kd.kM)); exact rP.out⟩, ⟨by repeat (first | (with_reducible first | exact HB.out | apply bA | apply pN | apply au) | exact HB.out)⟩⟩
            ·rw [if_neg lK] at H
             exact absurd H (by simp)
           ·rw [if_neg iZ] at H
            exact absurd H (by simp)
          ·rw [if_neg c24] at H
           have y7 : decide ((wrap64 (a1 + ((fG ByteArray.empty t190 fQ).size : Int))) ≤ (a0.size : Int)) = false := decide_eq_false c24
           clear c24
           have H' := am H
           clear H
           obtain ⟨auo, aup, afr⟩ := Kd.rO rP.out
           subst afr
           have rQ : 0 ≤ (fQ : Int) := of_decide_eq_true (by first | (with_reducible assumption) | assumption)
           have rR : fQ < (t190.length : Int) := of_decide_eq_true (by first | (with_reducible assumption) | assumption)
           obtain ⟨Ib, EP, TY⟩ := Kd.vK (Kd.pq rP.out).2.2 fQ rQ rR
           cases EP
           replace rQ := eq_true rQ
           replace rR := eq_true rR
           go_wp2
           repeat (go_quiet (fail); try go_wp2)
           go_roundg k1
           case measure => have := eu.out; omega
           case rel => exact ⟨(wrap64 (fQ + 1)), (by first | rfl | (simp; done) | (simp [*]; done)), H', ⟨by have := eu.out; omega⟩, ⟨by (with_reducible repeat (first | apply Kd.kK | apply Kd.ku | apply Kd.kM)); exact rP.out⟩, ⟨by repeat (first | (with_reducible first | exact HB.out | apply bA | apply pN | apply au) | exact HB.out)⟩⟩
         ·rw [if_neg c23] at H
          exact absurd H (by simp)
        ·rw [if_neg iQ] at H
         have sQ : decide (fQ < (t190.length : Int)) = false := decide_eq_false iQ
         clear iQ
         simp only [Option.some.injEq, Prod.mk.injEq] at H
         obtain ⟨rfl, rfl, rfl⟩ := H
         obtain ⟨auq, aur, afs⟩ := Kd.rO rP.out
         subst afs
         go_wp2
         repeat (go_quiet (fail); try go_wp2)
         go_ret3
         exact ⟨by first | rfl | (simp [aQ, aR] <;> rfl) | (simp [*, aQ, aR] <;> rfl), by repeat (first | (with_reducible first | exact HB.out | apply bA | apply pN | apply au) | exact HB.out)⟩
  ·rw [if_neg c4] at H
   exact absurd H (by simp)
 ·rw [if_neg c3] at H
  exact absurd H (by simp)
mutual
noncomputable def fu.l0 : Nat → ByteArray → List (iA) → Int → Option ((List (iA)) × Int × Bool)
 | 0, _, _, _ => none
 | k + 1, x0, x5, x6 => if x6 < (x0.size : Int) then (if 0 ≤ x6 then (if (bt x0 x6) = 32 then (fu.j1 k x0 x5 x6 true) else (fu.j1 k x0 x5 x6 ((bt x0 x6) == 10))) else (none)) else (some (x5, 0, true))
noncomputable def fu.j1 : Nat → ByteArray → List (iA) → Int → Bool → Option ((List (iA)) × Int × Bool)
 | 0, _, _, _, _ => none
 | k + 1, x0, x5, x6, x23 => if x23 = true then (fu.l0 k x0 x5 (wrap64 (x6 + 1))) else ((fF.f k x0 x6).bind fun oG => (if oG.2.2 = true then (if 0 ≤ x6 then (if x6 ≤ oG.2.1 then (if oG.2.1 ≤ (x0.size : Int) then (if x5.length < 4398046511104 then (fu.l0 k x0 (x5 ++ [(⟨oG.1, x6, x0.extract (x6 : Int).toNat (oG.2.1 : Int).toNat⟩ : iA)]) oG.2.1) else (none)) else (none)) else (none)) else (none)) else (some (([] : List (iA)), x6, false))))
end
noncomputable def fu.f (k : Nat) (a0 : ByteArray) : Option ((List (iA)) × Int × Bool) := fu.l0 k a0 ([] : List (iA)) 0
theorem fu.gy : ∀ k, (∀ y0 y1 y2, aN (fu.l0 k y0 y1 y2) (fu.l0 (k + 1) y0 y1 y2)) ∧ (∀ y0 y1 y2 y3, aN (fu.j1 k y0 y1 y2 y3) (fu.j1 (k + 1) y0 y1 y2 y3))
 | 0 => ⟨fun _ _ _ r h => by simp [fu.l0] at h, fun _ _ _ _ r h => by simp [fu.j1] at h⟩
 | k + 1 => by
  obtain ⟨cZ, ih1⟩ := fu.gy k
  refine ⟨?_, ?_⟩
  ·intro y0 y1 y2
   unfold fu.l0
   repeat' first
   | (with_reducible exact cZ _ _ _)
   | (with_reducible exact ih1 _ _ _ _)
   | (with_reducible exact fF.mono _ _ _)
   | (with_reducible exact aN.refl _)
   | (with_reducible exact aN.none _)
   | (with_reducible refine aN.ite ?_ ?_)
   | (with_reducible refine aN.bind ?_ (fun _ => ?_))
   | exact cZ _ _ _
   | exact ih1 _ _ _ _
   | exact fF.mono _ _ _
   | exact aN.none _
   | refine aN.ite ?_ ?_
   | refine aN.bind ?_ (fun _ => ?_)
  ·intro y0 y1 y2 y3
   unfold fu.j1
   repeat' first
   | (with_reducible exact cZ _ _ _)
   | (with_reducible exact ih1 _ _ _ _)
   | (with_reducible exact fF.mono _ _ _)
   | (with_reducible exact aN.refl _)
   | (with_reducible exact aN.none _)
   | (with_reducible refine aN.ite ?_ ?_)
   | (with_reducible refine aN.bind ?_ (fun _ => ?_))
   | exact cZ _ _ _
   | exact ih1 _ _ _ _
   | exact fF.mono _ _ _
   | exact aN.none _
   | refine aN.ite ?_ ?_
   | refine aN.bind ?_ (fun _ => ?_)
theorem fu.mono : ∀ a0 k, aN (fu.f k a0) (fu.f (k + 1) a0) := by
 intro a0 k
 obtain ⟨cZ, ih1⟩ := fu.gy k
 unfold fu.f
 repeat' first
  | (with_reducible exact cZ _ _ _)
  | (with_reducible exact ih1 _ _ _ _)
  | (with_reducible exact fF.mono _ _ _)
  | (with_reducible exact aN.refl _)
  | (with_reducible exact aN.none _)
  | (with_reducible refine aN.ite ?_ ?_)
  | (with_reducible refine aN.bind ?_ (fun _ => ?_))
  | exact cZ _ _ _
  | exact ih1 _ _ _ _
  | exact fF.mono _ _ _
  | exact aN.none _
  | refine aN.ite ?_ ?_
  | refine aN.bind ?_ (fun _ => ?_)
theorem fu.calls (k : Nat) (a0 : ByteArray) (r1 : List (iA)) (r2 : Int) (r3 : Bool) (w : World) (h : fu.f k a0 = some (r1, r2, r3)) :
 Calls Tryz.prog 270 #[.string a0] w fun e w' => ∃ xI : Value, e = .returned (.tuple #[xI, .int .i64 r2, .bool r3]) ∧ Kd.R yX 109 w' w.heap.size (fun _ => True) xI r1 ∧ Below w.heap.size w w' := by
 have aus := Tryz.underlying109
 have HB := am (Below.refl w.heap.size w)
 have H : (fu.l0 k a0 ([] : List (iA)) 0) = some (r1, r2, r3) := h
 clear h
 have H' := am H
 clear H
 go_enter Tryz.func270, Tryz.ntmps270
 go_wp2
 go_loopg [5, 6] k (fun kq v5 v6 w' => ∃ (dw : List (iA)) (aH : Int), v6 = .int .i64 aH ∧ bI (fu.l0 kq a0 dw aH = some (r1, r2, r3)) ∧ bI (kq ≤ k) ∧ bI (Kd.R yX 109 w' w.heap.size (fun _ => True) v5 dw) ∧ bI (Below w.heap.size w w'))
 case atStart => exact ⟨(([] : List (iA))), (0), (by first | rfl | (simp; done) | (simp [*]; done)), H', ⟨Nat.le_refl _⟩, ⟨by first | exact Kd.Nh _ _ _ _ _ | exact Kd.TL _ _ _ _ _ | exact Kd.TM _ _ _ _ _ | exact Kd.TP _ _ _ _ _ | exact Kd.TQ _ _ _ _ _⟩, ⟨by repeat (first | (with_reducible first | exact HB.out | apply bA | apply pN | apply au) | exact HB.out)⟩⟩
 case round =>
  clear H'
  obtain ⟨dw, aH, rfl, HA, eu, iI, HB⟩ := hrel
  cases gk with
  | zero => exact absurd HA.out (by simp [fu.l0])
  | succ k1 =>
   have H := HA.out
   clear HA
   simp only [fu.l0] at H
   by_cases c2 : aH < (a0.size : Int)
   ·rw [if_pos c2] at H
    have iN : decide (aH < (a0.size : Int)) = true := decide_eq_true c2
    clear c2
    have mO := am H
    clear H
    go_upto_region 4 with (fail)
    go_cut [23] (fun v23 wc => ∃ (kq : Nat) (Ic : Bool), v23 = .bool Ic ∧ bI (fu.j1 kq a0 dw aH Ic = some (r1, r2, r3)) ∧ bI (kq ≤ k1) ∧ bI (Kd.R yX 109 wc w.heap.size (fun _ => True) u5 dw) ∧ bI (Below w.heap.size w wc))
    case first =>
     have H := mO.out
     clear mO
     by_cases c4 : 0 ≤ aH
     ·rw [if_pos c4] at H
      have fJ : decide (0 ≤ aH) = true := decide_eq_true c4
      clear c4
      (first | rw [fJ] | (simp only [dS, eZ]; rw [fJ]) | skip)
      by_cases c6 : (bt a0 aH) = 32
      ·rw [if_pos c6] at H
       have gT : ((bt a0 aH) == 32) = true := beq_iff_eq.mpr c6
       have mP : ((bt a0 aH) != 32) = false := bne_eq_false_iff_eq.mpr c6
       clear c6
       have H' := am H
       clear H
       have p5 : 0 ≤ (aH : Int) := of_decide_eq_true (by first | (with_reducible assumption) | assumption)
       have q5 : aH < (a0.size : Int) := of_decide_eq_true (by first | (with_reducible assumption) | assumption)
       have hx5 := gQ a0 aH
       replace p5 := eq_true p5
       replace q5 := eq_true q5
       go_wp2
       go_meet
       case rel => exact ⟨_, (true), (by first | rfl | (simp; done) | (simp [*]; done)), H', ⟨by have := eu.out; first | omega | exact Nat.le_refl _⟩, ⟨by (with_reducible repeat (first | apply Kd.kK | apply Kd.ku | apply Kd.kM)); exact iI.out⟩, ⟨by repeat (first | (with_reducible first | exact HB.out | apply bA | apply pN | apply au) | exact HB.out)⟩⟩
      ·rw [if_neg c6] at H
       have gT : ((bt a0 aH) == 32) = false := beq_eq_false_iff_ne.mpr c6
       have mP : ((bt a0 aH) != 32) = true := bne_iff_ne.mpr c6
       have H' := am H
       clear H
       have p5 : 0 ≤ (aH : Int) := of_decide_eq_true (by first | (with_reducible assumption) | assumption)
       have q5 : aH < (a0.size : Int) := of_decide_eq_true (by first | (with_reducible assumption) | assumption)
       have hx5 := gQ a0 aH
       replace p5 := eq_true p5
       replace q5 := eq_true q5
       have p7 : 0 ≤ (aH : Int) := of_decide_eq_true (by first | (with_reducible assumption) | assumption)
       have q7 : aH < (a0.size : Int) := of_decide_eq_true (by first | (with_reducible assumption) | assumption)
       have hx7 := gQ a0 aH
       replace p7 := eq_true p7
       replace q7 := eq_true q7
       go_wp2
       go_meet
       case rel => exact ⟨_, (((bt a0 aH) == 10)), (by first | rfl | (simp; done) | (simp [*]; done)), H', ⟨by have := eu.out; first | omega | exact Nat.le_refl _⟩, ⟨by (with_reducible repeat (first | apply Kd.kK | apply Kd.ku | apply Kd.kM)); exact iI.out⟩, ⟨by repeat (first | (with_reducible first | exact HB.out | apply bA | apply pN | apply au) | exact HB.out)⟩⟩
     ·rw [if_neg c4] at H
      exact absurd H (by simp)
    case rest =>
     clear mO
     try clear c2
     try clear iN
     try clear p2
     try clear c4
     try clear fJ
     try clear p5
     try clear q5
     try clear hx5
     try clear c6
     try clear gT
     try clear mP
     try clear p7
     try clear q7
     try clear hx7
     try clear p5
     try clear p7
     try clear q5
     try clear q7
     obtain ⟨kq, Ic, rfl, HA, HJ2, iI, HB⟩ := hcut
     cases kq with
     | zero => exact absurd HA.out (by simp [fu.j1])
     | succ iP =>
      have H := HA.out
      clear HA
      simp only [fu.j1] at H
      by_cases c8 : Ic = true
      ·subst c8
       have H1 : (fu.l0 iP a0 dw (wrap64 (aH + 1))) = some (r1, r2, r3) := by rw [if_pos rfl] at H; exact H
       clear H
       have H := H1
       clear H1
       have H' := am H
       clear H
       go_wp2
       go_roundg iP
       case measure => have := eu.out; have := HJ2.out; omega
       case rel => exact ⟨(dw), (wrap64 (aH + 1)), (by first | rfl | (simp; done) | (simp [*]; done)), H', ⟨by have := eu.out; have := HJ2.out; omega⟩, ⟨by (with_reducible repeat (first | apply Kd.kK | apply Kd.ku | apply Kd.kM)); exact iI.out⟩, ⟨by repeat (first | (with_reducible first | exact HB.out | apply bA | apply pN | apply au) | exact HB.out)⟩⟩
      ·replace c8 := Bool.eq_false_iff.mpr c8
       subst c8
       have H1 : ((fF.f iP a0 aH).bind fun oG => (if oG.2.2 = true then (if 0 ≤ aH then (if aH ≤ oG.2.1 then (if oG.2.1 ≤ (a0.size : Int) then (if dw.length < 4398046511104 then (fu.l0 iP a0 (dw ++ [(⟨oG.1, aH, a0.extract (aH : Int).toNat (oG.2.1 : Int).toNat⟩ : iA)]) oG.2.1) else (none)) else (none)) else (none)) else (none)) else (some (([] : List (iA)), aH, false)))) = some (r1, r2, r3) := by rw [if_neg (show ¬ (false = true) by decide)] at H; exact H
       clear H
       have H := H1
       clear H1
       replace H := Option.bind_eq_some_iff.mp H
       obtain ⟨⟨t195, t196, t197⟩, nP, H⟩ := H
       replace H : (if t197 = true then (if 0 ≤ aH then (if aH ≤ t196 then (if t196 ≤ (a0.size : Int) then (if dw.length < 4398046511104 then (fu.l0 iP a0 (dw ++ [(⟨t195, aH, a0.extract (aH : Int).toNat (t196 : Int).toNat⟩ : iA)]) t196) else (none)) else (none)) else (none)) else (none)) else (some (([] : List (iA)), aH, false))) = some (r1, r2, r3) := H
       have A9 := am nP
       clear nP
       by_cases c10 : t197 = true
       ·subst c10
        have H1 : (if 0 ≤ aH then (if aH ≤ t196 then (if t196 ≤ (a0.size : Int) then (if dw.length < 4398046511104 then (fu.l0 iP a0 (dw ++ [(⟨t195, aH, a0.extract (aH : Int).toNat (t196 : Int).toNat⟩ : iA)]) t196) else (none)) else (none)) else (none)) else (none)) = some (r1, r2, r3) := by rw [if_pos rfl] at H; exact H
        clear H
        have H := H1
        clear H1
        by_cases c11 : 0 ≤ aH
        ·rw [if_pos c11] at H
         have og := eq_true c11
         have oZ : decide (0 ≤ aH) = true := decide_eq_true c11
         clear c11
         by_cases c12 : aH ≤ t196
         ·rw [if_pos c12] at H
          have wT := eq_true c12
          have wU : decide (aH ≤ t196) = true := decide_eq_true c12
          clear c12
          by_cases c13 : t196 ≤ (a0.size : Int)
          ·rw [if_pos c13] at H
           have kY := eq_true c13
           have zH : decide (t196 ≤ (a0.size : Int)) = true := decide_eq_true c13
           clear c13
           by_cases c14 : dw.length < 4398046511104
           ·rw [if_pos c14] at H
            have aft := am c14
            clear c14
            obtain ⟨T9, ER⟩ : ∃ y_ : List (iA), y_ = (dw ++ [(⟨t195, aH, a0.extract (aH : Int).toNat (t196 : Int).toNat⟩ : iA)]) := ⟨_, rfl⟩
            replace H : (fu.l0 iP a0 T9 t196) = some (r1, r2, r3) := by first | (rw [ER]; with_reducible exact H) | (have mU := (Option.bind_some _ _).symm.trans H; rw [ER]; with_reducible exact mU) | (have mU := (Option.bind_some _ _).symm.trans H; with_reducible exact mU) | with_reducible exact H | (rw [ER]; exact H) | exact H
            have afu := am ER
            clear ER
            have H' := am H
            clear H
            go_wp2_with (first | ((with_reducible refine bY (f := 323) rfl ?_); refine b_ (some 29) rfl rfl Tryz.func323 (by kernel_rfl) rfl #[.string a0, .int .i64 aH] rfl (by (try simp only [List.map_toArray, List.map_cons, List.map_nil]); first | done | rfl | (simp only [List.length_drop, List.length_take]; rfl)) ?_; (with_reducible refine (fF.calls iP a0 aH t195 t196 true _ A9.out).mono ?_); rintro e yY ⟨rfl, hb⟩; refine ⟨_, rfl, ?_⟩; have ay := am (Kd.Cv (by (with_reducible repeat (first | apply Kd.kK | apply Kd.ku | apply Kd.kM)); exact iI.out) hb); have aA := am (bP (by repeat (first | (with_reducible first | exact HB.out | apply bA | apply pN | apply au) | exact HB.out)) hb); clear iI; clear HB; have iI := ay; have HB := aA; clear ay aA; (try clear hb); (try clear hb2); (try clear hk); (try clear hi)) | ((with_reducible refine TS (b := .append) (xs := #[.tmp 36, .tmp 44]) rfl ?_); at_builtin; refine Kd.TT yX (w0 := w) w.heap.size rfl (.tmp 36) (.tmp 44) 50 109 (.agg #[(.int .i64 0), (.int .i64 0), (.string ⟨#[]⟩)]) 32 rfl Tryz.underlying50 ZJ rfl (by decide) (by omega) u5 dw (⟨t195, aH, a0.extract (aH : Int).toNat (t196 : Int).toNat⟩ : iA) [.int .i64 t195, .int .i64 aH, .string (a0.extract (aH : Int).toNat (t196 : Int).toNat)] (fun _ => True) (fun _ => False) rfl rfl ?aP (fun _ hk => hk.elim) ?aF ?aO ?aB ?aS ?aL ?_; (case aP => exact ZN _ _ _ (⟨t195, aH, a0.extract (aH : Int).toNat (t196 : Int).toNat⟩ : iA)); (case aB => exact (by repeat (first | (with_reducible first | exact HB.out | apply bA | apply pN | apply au) | exact HB.out))); (case aF => exact (fun _ _ => trivial)); (case aO => exact (by (with_reducible repeat (first | apply Kd.kK | apply Kd.ku | apply Kd.kM)); exact iI.out)); (case aS => exact (bZ (by repeat (first | (with_reducible first | exact HB.out | apply bA | apply pN | apply au) | exact HB.out)))); (case aL => have := aft.out; omega); intro aut w16 ho hb hg hat; rw [← afu.out] at ho; have ay := am (hb); have aA := am (ho); clear HB; clear iI; have HB := ay; have afv := aA; clear ay aA; clear ho hb hg hat))
            go_roundg iP
            case measure => have := eu.out; have := HJ2.out; omega
            case rel => exact ⟨(T9), (t196), (by first | rfl | (simp; done) | (simp [*]; done)), H', ⟨by have := eu.out; have := HJ2.out; omega⟩, ⟨by (with_reducible repeat (first | apply Kd.kK | apply Kd.ku | apply Kd.kM)); exact afv.out⟩, ⟨by repeat (first | (with_reducible first | exact HB.out | apply bA | apply pN | apply au) | exact HB.out)⟩⟩
           ·rw [if_neg c14] at H
            exact absurd H (by simp)
          ·rw [if_neg c13] at H
           exact absurd H (by simp)
         ·rw [if_neg c12] at H
          exact absurd H (by simp)
        ·rw [if_neg c11] at H
         exact absurd H (by simp)
       ·replace c10 := Bool.eq_false_iff.mpr c10
        subst c10
        have H1 : (some (([] : List (iA)), aH, false)) = some (r1, r2, r3) := by rw [if_neg (show ¬ (false = true) by decide)] at H; exact H
        clear H
        have H := H1
        clear H1
        simp only [Option.some.injEq, Prod.mk.injEq] at H
        obtain ⟨rfl, rfl, rfl⟩ := H
        go_wp2_with (first | ((with_reducible refine bY (f := 323) rfl ?_); refine b_ (some 29) rfl rfl Tryz.func323 (by kernel_rfl) rfl #[.string a0, .int .i64 aH] rfl (by (try simp only [List.map_toArray, List.map_cons, List.map_nil]); first | done | rfl | (simp only [List.length_drop, List.length_take]; rfl)) ?_; (with_reducible refine (fF.calls iP a0 aH t195 t196 false _ A9.out).mono ?_); rintro e TK ⟨rfl, hb⟩; refine ⟨_, rfl, ?_⟩; have ay := am (Kd.Cv (by (with_reducible repeat (first | apply Kd.kK | apply Kd.ku | apply Kd.kM)); exact iI.out) hb); have aA := am (bP (by repeat (first | (with_reducible first | exact HB.out | apply bA | apply pN | apply au) | exact HB.out)) hb); clear iI; clear HB; have iI := ay; have HB := aA; clear ay aA; (try clear hb); (try clear hb2); (try clear hk); (try clear hi)))
        go_ret3
        exact ⟨_, by first | rfl | (simp [aQ, aR] <;> rfl) | (simp [*, aQ, aR] <;> rfl), by first | exact Kd.Nh _ _ _ _ _ | exact Kd.TL _ _ _ _ _ | exact Kd.TM _ _ _ _ _ | exact Kd.TP _ _ _ _ _ | exact Kd.TQ _ _ _ _ _, by repeat (first | (with_reducible first | exact HB.out | apply bA | apply pN | apply au) | exact HB.out)⟩
   ·rw [if_neg c2] at H
    have iN : decide (aH < (a0.size : Int)) = false := decide_eq_false c2
    clear c2
    simp only [Option.some.injEq, Prod.mk.injEq] at H
    obtain ⟨rfl, rfl, rfl⟩ := H
    go_wp2
    go_ret3
    exact ⟨_, by first | rfl | (simp [aQ, aR] <;> rfl) | (simp [*, aQ, aR] <;> rfl), by (with_reducible repeat (first | apply Kd.kK | apply Kd.ku | apply Kd.kM)); exact iI.out, by repeat (first | (with_reducible first | exact HB.out | apply bA | apply pN | apply au) | exact HB.out)⟩
noncomputable def oQ.f (k : Nat) (a0 : Int) (a1 : ByteArray) : Option (Bool) := (fu.f k a1).bind fun rT => (if rT.2.2 = true then (if (rT.1.length : Int) = 1 then (if 0 < (rT.1.length : Int) then (if ((l7 rT.1 0).f0) = a0 then (some (((l7 rT.1 0).f2).toList == a1.toList)) else (some false)) else (none)) else (some false)) else (some false))
theorem oQ.mono : ∀ a0 a1 k, aN (oQ.f k a0 a1) (oQ.f (k + 1) a0 a1) := by
 intro a0 a1 k
 unfold oQ.f
 repeat' first
  | (with_reducible exact fu.mono _ _)
  | (with_reducible exact aN.refl _)
  | (with_reducible exact aN.none _)
  | (with_reducible refine aN.ite ?_ ?_)
  | (with_reducible refine aN.bind ?_ (fun _ => ?_))
  | exact fu.mono _ _
  | exact aN.none _
  | refine aN.ite ?_ ?_
  | refine aN.bind ?_ (fun _ => ?_)
theorem oQ.calls (k : Nat) (a0 : Int) (a1 : ByteArray) (r : Bool) (w : World) (h : oQ.f k a0 a1 = some r) :
 Calls Tryz.prog 193 #[.int .i64 a0, .string a1] w fun e w' => e = .returned (.bool r) ∧ Below w.heap.size w w' := by
 have HB := am (Below.refl w.heap.size w)
 have H : ((fu.f k a1).bind fun rT => (if rT.2.2 = true then (if (rT.1.length : Int) = 1 then (if 0 < (rT.1.length : Int) then (if ((l7 rT.1 0).f0) = a0 then (some (((l7 rT.1 0).f2).toList == a1.toList)) else (some false)) else (none)) else (some false)) else (some false))) = some r := h
 clear h
 replace H := Option.bind_eq_some_iff.mp H
 obtain ⟨⟨t201, t202, t203⟩, fH, H⟩ := H
 replace H : (if t203 = true then (if (t201.length : Int) = 1 then (if 0 < (t201.length : Int) then (if ((l7 t201 0).f0) = a0 then (some (((l7 t201 0).f2).toList == a1.toList)) else (some false)) else (none)) else (some false)) else (some false)) = some r := H
 have A3 := am fH
 clear fH
 by_cases c4 : t203 = true
 ·subst c4
  have H1 : (if (t201.length : Int) = 1 then (if 0 < (t201.length : Int) then (if ((l7 t201 0).f0) = a0 then (some (((l7 t201 0).f2).toList == a1.toList)) else (some false)) else (none)) else (some false)) = some r := by rw [if_pos rfl] at H; exact H
  clear H
  have H := H1
  clear H1
  by_cases c5 : (t201.length : Int) = 1
  ·rw [if_pos c5] at H
   have g_ : ((t201.length : Int) == 1) = true := beq_iff_eq.mpr c5
   have kW : ((t201.length : Int) != 1) = false := bne_eq_false_iff_eq.mpr c5
   clear c5
   by_cases c6 : 0 < (t201.length : Int)
   ·rw [if_pos c6] at H
    have gT : decide (0 < (t201.length : Int)) = true := decide_eq_true c6
    have mP : decide (0 < t201.length) = true := decide_eq_true (by omega)
    clear c6
    by_cases c7 : ((l7 t201 0).f0) = a0
    ·rw [if_pos c7] at H
     have iB : (((l7 t201 0).f0) == a0) = true := beq_iff_eq.mpr c7
     have j5 : (((l7 t201 0).f0) != a0) = false := bne_eq_false_iff_eq.mpr c7
     clear c7
     obtain rfl := Option.some.inj H
     go_enter Tryz.func193, Tryz.ntmps193
     go_wp2_with (first | ((with_reducible refine bY (f := 270) rfl ?_); refine b_ (some 10) rfl rfl Tryz.func270 (by kernel_rfl) rfl #[.string a1] rfl (by (try simp only [List.map_toArray, List.map_cons, List.map_nil]); first | done | rfl | (simp only [List.length_drop, List.length_take]; rfl)) ?_; (with_reducible refine (fu.calls k a1 t201 t202 true _ A3.out).mono ?_); rintro e w8 ⟨NN, rfl, ho0, hb⟩; refine ⟨_, rfl, ?_⟩; have ay := am (Kd.sZ ho0 (bZ (by repeat (first | (with_reducible first | exact HB.out | apply bA | apply pN | apply au) | exact HB.out)))); have aA := am (bP (by repeat (first | (with_reducible first | exact HB.out | apply bA | apply pN | apply au) | exact HB.out)) hb); clear HB; have vQ := ay; have HB := aA; clear ay aA; (try clear hb); (try clear hb2); (try clear hk); (try clear hi); (try clear ho0); obtain ⟨Ao9, co9, NP⟩ := Kd.rO vQ.out; subst NP; have AA : 0 ≤ (0 : Int) := (by omega); have AB : 0 < (t201.length : Int) := of_decide_eq_true (by first | (with_reducible assumption) | assumption); obtain ⟨T_, e206, AJ, AL, AO⟩ := Ld (Kd.pq vQ.out).2.2 0 AA AB; cases e206; have afy : (0 < t201.length) = True := eq_true (by omega); (try rw [show ((0 : Int)).toNat = 0 from rfl] at AJ); (try rw [show 0 * 3 = 0 from rfl] at AJ); (try rw [Addr.add_zero'] at AJ); (try rw [show ((0 : Int)).toNat = 0 from rfl] at AL); (try rw [show 0 * 3 = 0 from rfl] at AL); (try rw [Addr.add_zero'] at AL); (try rw [show ((0 : Int)).toNat = 0 from rfl] at AO); (try rw [show 0 * 3 = 0 from rfl] at AO); (try rw [Addr.add_zero'] at AO); replace AA := eq_true AA; replace AB := eq_true AB; have NQ : 0 ≤ (0 : Int) := (by omega); have NR : 0 < (t201.length : Int) := of_decide_eq_true (by first | (with_reducible assumption) | assumption); obtain ⟨afz, e207, NS, NT, NU⟩ := Ld (Kd.pq vQ.out).2.2 0 NQ NR; obtain rfl : T_ = afz := (by injection e207); have auu : (0 < t201.length) = True := eq_true (by omega); (try rw [show ((0 : Int)).toNat = 0 from rfl] at NS); (try rw [show 0 * 3 = 0 from rfl] at NS); (try rw [Addr.add_zero'] at NS); (try rw [show ((0 : Int)).toNat = 0 from rfl] at NT); (try rw [show 0 * 3 = 0 from rfl] at NT); (try rw [Addr.add_zero'] at NT); (try rw [show ((0 : Int)).toNat = 0 from rfl] at NU); (try rw [show 0 * 3 = 0 from rfl] at NU); (try rw [Addr.add_zero'] at NU); replace NQ := eq_true NQ; replace NR := eq_true NR))
     go_ret
     exact ⟨by first | rfl | (simp [aQ, aR] <;> rfl) | (simp [*, aQ, aR] <;> rfl), by repeat (first | (with_reducible first | exact HB.out | apply bA | apply pN | apply au) | exact HB.out)⟩
    ·rw [if_neg c7] at H
     have iB : (((l7 t201 0).f0) == a0) = false := beq_eq_false_iff_ne.mpr c7
     have j5 : (((l7 t201 0).f0) != a0) = true := bne_iff_ne.mpr c7
     obtain rfl := Option.some.inj H
     go_enter Tryz.func193, Tryz.ntmps193
     go_wp2_with (first | ((with_reducible refine bY (f := 270) rfl ?_); refine b_ (some 10) rfl rfl Tryz.func270 (by kernel_rfl) rfl #[.string a1] rfl (by (try simp only [List.map_toArray, List.map_cons, List.map_nil]); first | done | rfl | (simp only [List.length_drop, List.length_take]; rfl)) ?_; (with_reducible refine (fu.calls k a1 t201 t202 true _ A3.out).mono ?_); rintro e o7 ⟨NN, rfl, ho0, hb⟩; refine ⟨_, rfl, ?_⟩; have ay := am (Kd.sZ ho0 (bZ (by repeat (first | (with_reducible first | exact HB.out | apply bA | apply pN | apply au) | exact HB.out)))); have aA := am (bP (by repeat (first | (with_reducible first | exact HB.out | apply bA | apply pN | apply au) | exact HB.out)) hb); clear HB; have vQ := ay; have HB := aA; clear ay aA; (try clear hb); (try clear hb2); (try clear hk); (try clear hi); (try clear ho0); obtain ⟨auv, auw, afA⟩ := Kd.rO vQ.out; subst afA; have AA : 0 ≤ (0 : Int) := (by omega); have AB : 0 < (t201.length : Int) := of_decide_eq_true (by first | (with_reducible assumption) | assumption); obtain ⟨T_, e206, AJ, AL, AO⟩ := Ld (Kd.pq vQ.out).2.2 0 AA AB; cases e206; have afy : (0 < t201.length) = True := eq_true (by omega); (try rw [show ((0 : Int)).toNat = 0 from rfl] at AJ); (try rw [show 0 * 3 = 0 from rfl] at AJ); (try rw [Addr.add_zero'] at AJ); (try rw [show ((0 : Int)).toNat = 0 from rfl] at AL); (try rw [show 0 * 3 = 0 from rfl] at AL); (try rw [Addr.add_zero'] at AL); (try rw [show ((0 : Int)).toNat = 0 from rfl] at AO); (try rw [show 0 * 3 = 0 from rfl] at AO); (try rw [Addr.add_zero'] at AO); replace AA := eq_true AA; replace AB := eq_true AB))
     go_ret
     exact ⟨by first | rfl | (simp [aQ, aR] <;> rfl) | (simp [*, aQ, aR] <;> rfl), by repeat (first | (with_reducible first | exact HB.out | apply bA | apply pN | apply au) | exact HB.out)⟩
   ·rw [if_neg c6] at H
    exact absurd H (by simp)
  ·rw [if_neg c5] at H
   have g_ : ((t201.length : Int) == 1) = false := beq_eq_false_iff_ne.mpr c5
   have kW : ((t201.length : Int) != 1) = true := bne_iff_ne.mpr c5
   obtain rfl := Option.some.inj H
   go_enter Tryz.func193, Tryz.ntmps193
   go_wp2_with (first | ((with_reducible refine bY (f := 270) rfl ?_); refine b_ (some 10) rfl rfl Tryz.func270 (by kernel_rfl) rfl #[.string a1] rfl (by (try simp only [List.map_toArray, List.map_cons, List.map_nil]); first | done | rfl | (simp only [List.length_drop, List.length_take]; rfl)) ?_; (with_reducible refine (fu.calls k a1 t201 t202 true _ A3.out).mono ?_); rintro e uE ⟨NN, rfl, ho0, hb⟩; refine ⟨_, rfl, ?_⟩; have ay := am (Kd.sZ ho0 (bZ (by repeat (first | (with_reducible first | exact HB.out | apply bA | apply pN | apply au) | exact HB.out)))); have aA := am (bP (by repeat (first | (with_reducible first | exact HB.out | apply bA | apply pN | apply au) | exact HB.out)) hb); clear HB; have vQ := ay; have HB := aA; clear ay aA; (try clear hb); (try clear hb2); (try clear hk); (try clear hi); (try clear ho0); obtain ⟨auy, auz, afB⟩ := Kd.rO vQ.out; subst afB))
   go_ret
   exact ⟨by first | rfl | (simp [aQ, aR] <;> rfl) | (simp [*, aQ, aR] <;> rfl), by repeat (first | (with_reducible first | exact HB.out | apply bA | apply pN | apply au) | exact HB.out)⟩
 ·replace c4 := Bool.eq_false_iff.mpr c4
  subst c4
  have H1 : (some false) = some r := by rw [if_neg (show ¬ (false = true) by decide)] at H; exact H
  clear H
  have H := H1
  clear H1
  obtain rfl := Option.some.inj H
  go_enter Tryz.func193, Tryz.ntmps193
  go_wp2_with (first | ((with_reducible refine bY (f := 270) rfl ?_); refine b_ (some 10) rfl rfl Tryz.func270 (by kernel_rfl) rfl #[.string a1] rfl (by (try simp only [List.map_toArray, List.map_cons, List.map_nil]); first | done | rfl | (simp only [List.length_drop, List.length_take]; rfl)) ?_; (with_reducible refine (fu.calls k a1 t201 t202 false _ A3.out).mono ?_); rintro e y9 ⟨NN, rfl, ho0, hb⟩; refine ⟨_, rfl, ?_⟩; have ay := am (Kd.sZ ho0 (bZ (by repeat (first | (with_reducible first | exact HB.out | apply bA | apply pN | apply au) | exact HB.out)))); have aA := am (bP (by repeat (first | (with_reducible first | exact HB.out | apply bA | apply pN | apply au) | exact HB.out)) hb); clear HB; have vQ := ay; have HB := aA; clear ay aA; (try clear hb); (try clear hb2); (try clear hk); (try clear hi); (try clear ho0)))
  go_ret
  exact ⟨by first | rfl | (simp [aQ, aR] <;> rfl) | (simp [*, aQ, aR] <;> rfl), by repeat (first | (with_reducible first | exact HB.out | apply bA | apply pN | apply au) | exact HB.out)⟩
noncomputable def mJ.f (k : Nat) (a0 : ByteArray) : Option (Bool) := (oQ.f k 0 a0).bind fun t208 => (some t208)
theorem mJ.mono : ∀ a0 k, aN (mJ.f k a0) (mJ.f (k + 1) a0) := by
 intro a0 k
 unfold mJ.f
 repeat' first
  | (with_reducible exact oQ.mono _ _ _)
  | (with_reducible exact aN.refl _)
  | (with_reducible exact aN.none _)
  | (with_reducible refine aN.ite ?_ ?_)
  | (with_reducible refine aN.bind ?_ (fun _ => ?_))
  | exact oQ.mono _ _ _
  | exact aN.none _
  | refine aN.ite ?_ ?_
  | refine aN.bind ?_ (fun _ => ?_)
theorem mJ.calls (k : Nat) (a0 : ByteArray) (r : Bool) (w : World) (h : mJ.f k a0 = some r) :
 Calls Tryz.prog 140 #[.string a0] w fun e w' => e = .returned (.bool r) ∧ Below w.heap.size w w' := by
 have HB := am (Below.refl w.heap.size w)
 have H : ((oQ.f k 0 a0).bind fun t208 => (some t208)) = some r := h
 clear h
 replace H := Option.bind_eq_some_iff.mp H
 obtain ⟨t208, f_, H⟩ := H
 replace H : (some t208) = some r := H
 have A2 := am f_
 clear f_
 obtain rfl := Option.some.inj H
 go_enter Tryz.func140, Tryz.ntmps140
 go_wp2_with (first | ((with_reducible refine bY (f := 193) rfl ?_); refine b_ (some 4) rfl rfl Tryz.func193 (by kernel_rfl) rfl #[.int .i64 0, .string a0] rfl (by (try simp only [List.map_toArray, List.map_cons, List.map_nil]); first | done | rfl | (simp only [List.length_drop, List.length_take]; rfl)) ?_; (with_reducible refine (oQ.calls k 0 a0 t208 _ A2.out).mono ?_); rintro e w3 ⟨rfl, hb⟩; refine ⟨_, rfl, ?_⟩; have ay := am (bP (by repeat (first | (with_reducible first | exact HB.out | apply bA | apply pN | apply au) | exact HB.out)) hb); clear HB; have HB := ay; clear ay; (try clear hb); (try clear hb2); (try clear hk); (try clear hi)))
 go_ret
 exact ⟨by first | rfl | (simp [aQ, aR] <;> rfl) | (simp [*, aQ, aR] <;> rfl), by repeat (first | (with_reducible first | exact HB.out | apply bA | apply pN | apply au) | exact HB.out)⟩
noncomputable def BL.f  : Option (List ByteArray) := some (([(⟨#[102, 110]⟩ : ByteArray), (⟨#[99, 111, 110, 115, 116]⟩ : ByteArray), (⟨#[118, 97, 114]⟩ : ByteArray), (⟨#[99, 111, 109, 112, 116, 105, 109, 101]⟩ : ByteArray), (⟨#[114, 101, 116, 117, 114, 110]⟩ : ByteArray), (⟨#[101, 114, 114, 111, 114]⟩ : ByteArray), (⟨#[105, 102]⟩ : ByteArray), (⟨#[101, 108, 115, 101]⟩ : ByteArray), (⟨#[119, 104, 105, 108, 101]⟩ : ByteArray), (⟨#[102, 111, 114]⟩ : ByteArray), (⟨#[105, 110, 108, 105, 110, 101]⟩ : ByteArray), (⟨#[115, 119, 105, 116, 99, 104]⟩ : ByteArray), (⟨#[100, 101, 102, 101, 114]⟩ : ByteArray), (⟨#[101, 114, 114, 100, 101, 102, 101, 114]⟩ : ByteArray), (⟨#[98, 114, 101, 97, 107]⟩ : ByteArray), (⟨#[99, 111, 110, 116, 105, 110, 117, 101]⟩ : ByteArray), (⟨#[103, 105, 118, 101]⟩ : ByteArray), (⟨#[117, 110, 114, 101, 97, 99, 104, 97, 98, 108, 101]⟩ : ByteArray), (⟨#[116, 114, 117, 101]⟩ : ByteArray), (⟨#[102, 97, 108, 115, 101]⟩ : ByteArray), (⟨#[97, 110, 100]⟩ : ByteArray), (⟨#[111, 114]⟩ : ByteArray), (⟨#[116, 114, 121]⟩ : ByteArray), (⟨#[99, 97, 116, 99, 104]⟩ : ByteArray), (⟨#[111, 114, 101, 108, 115, 101]⟩ : ByteArray), (⟨#[100, 111]⟩ : ByteArray), (⟨#[118, 111, 105, 100]⟩ : ByteArray), (⟨#[98, 111, 111, 108]⟩ : ByteArray), (⟨#[116, 121, 112, 101]⟩ : ByteArray), (⟨#[95]⟩ : ByteArray)] : List ByteArray))
theorem BL.calls  (r : List ByteArray) (w : World) (h : BL.f  = some r) :
 Calls Tryz.prog 194 #[] w fun e w' => ∃ xI : Value, e = .returned (xI) ∧ Kd.R Kd.string 9 w' w.heap.size (fun _ => True) xI r ∧ Below w.heap.size w w' := by
 have HB := am (Below.refl w.heap.size w)
 have H : (some (([(⟨#[102, 110]⟩ : ByteArray), (⟨#[99, 111, 110, 115, 116]⟩ : ByteArray), (⟨#[118, 97, 114]⟩ : ByteArray), (⟨#[99, 111, 109, 112, 116, 105, 109, 101]⟩ : ByteArray), (⟨#[114, 101, 116, 117, 114, 110]⟩ : ByteArray), (⟨#[101, 114, 114, 111, 114]⟩ : ByteArray), (⟨#[105, 102]⟩ : ByteArray), (⟨#[101, 108, 115, 101]⟩ : ByteArray), (⟨#[119, 104, 105, 108, 101]⟩ : ByteArray), (⟨#[102, 111, 114]⟩ : ByteArray), (⟨#[105, 110, 108, 105, 110, 101]⟩ : ByteArray), (⟨#[115, 119, 105, 116, 99, 104]⟩ : ByteArray), (⟨#[100, 101, 102, 101, 114]⟩ : ByteArray), (⟨#[101, 114, 114, 100, 101, 102, 101, 114]⟩ : ByteArray), (⟨#[98, 114, 101, 97, 107]⟩ : ByteArray), (⟨#[99, 111, 110, 116, 105, 110, 117, 101]⟩ : ByteArray), (⟨#[103, 105, 118, 101]⟩ : ByteArray), (⟨#[117, 110, 114, 101, 97, 99, 104, 97, 98, 108, 101]⟩ : ByteArray), (⟨#[116, 114, 117, 101]⟩ : ByteArray), (⟨#[102, 97, 108, 115, 101]⟩ : ByteArray), (⟨#[97, 110, 100]⟩ : ByteArray), (⟨#[111, 114]⟩ : ByteArray), (⟨#[116, 114, 121]⟩ : ByteArray), (⟨#[99, 97, 116, 99, 104]⟩ : ByteArray), (⟨#[111, 114, 101, 108, 115, 101]⟩ : ByteArray), (⟨#[100, 111]⟩ : ByteArray), (⟨#[118, 111, 105, 100]⟩ : ByteArray), (⟨#[98, 111, 111, 108]⟩ : ByteArray), (⟨#[116, 121, 112, 101]⟩ : ByteArray), (⟨#[95]⟩ : ByteArray)] : List ByteArray))) = some r := h
 clear h
 obtain ⟨afC, ES⟩ : ∃ y_ : List ByteArray, y_ = (([(⟨#[102, 110]⟩ : ByteArray), (⟨#[99, 111, 110, 115, 116]⟩ : ByteArray), (⟨#[118, 97, 114]⟩ : ByteArray), (⟨#[99, 111, 109, 112, 116, 105, 109, 101]⟩ : ByteArray), (⟨#[114, 101, 116, 117, 114, 110]⟩ : ByteArray), (⟨#[101, 114, 114, 111, 114]⟩ : ByteArray), (⟨#[105, 102]⟩ : ByteArray), (⟨#[101, 108, 115, 101]⟩ : ByteArray), (⟨#[119, 104, 105, 108, 101]⟩ : ByteArray), (⟨#[102, 111, 114]⟩ : ByteArray), (⟨#[105, 110, 108, 105, 110, 101]⟩ : ByteArray), (⟨#[115, 119, 105, 116, 99, 104]⟩ : ByteArray), (⟨#[100, 101, 102, 101, 114]⟩ : ByteArray), (⟨#[101, 114, 114, 100, 101, 102, 101, 114]⟩ : ByteArray), (⟨#[98, 114, 101, 97, 107]⟩ : ByteArray), (⟨#[99, 111, 110, 116, 105, 110, 117, 101]⟩ : ByteArray), (⟨#[103, 105, 118, 101]⟩ : ByteArray), (⟨#[117, 110, 114, 101, 97, 99, 104, 97, 98, 108, 101]⟩ : ByteArray), (⟨#[116, 114, 117, 101]⟩ : ByteArray), (⟨#[102, 97, 108, 115, 101]⟩ : ByteArray), (⟨#[97, 110, 100]⟩ : ByteArray), (⟨#[111, 114]⟩ : ByteArray), (⟨#[116, 114, 121]⟩ : ByteArray), (⟨#[99, 97, 116, 99, 104]⟩ : ByteArray), (⟨#[111, 114, 101, 108, 115, 101]⟩ : ByteArray), (⟨#[100, 111]⟩ : ByteArray), (⟨#[118, 111, 105, 100]⟩ : ByteArray), (⟨#[98, 111, 111, 108]⟩ : ByteArray), (⟨#[116, 121, 112, 101]⟩ : ByteArray), (⟨#[95]⟩ : ByteArray)] : List ByteArray)) := ⟨_, rfl⟩
 replace H : (some afC) = some r := by first | (rw [ES]; with_reducible exact H) | (have mU := (Option.bind_some _ _).symm.trans H; rw [ES]; with_reducible exact mU) | (have mU := (Option.bind_some _ _).symm.trans H; with_reducible exact mU) | with_reducible exact H | (rw [ES]; exact H) | exact H
 have Ua := am ES
 clear ES
 obtain rfl := Option.some.inj H
 go_enter Tryz.func194, Tryz.ntmps194
 go_wp2_with (first | ((with_reducible refine cK (N := 1) rfl ?_); refine Kd.TV Kd.string _ 9 ?hg (N := 1) ?hd (xs := ([(⟨#[102, 110]⟩ : ByteArray), (⟨#[99, 111, 110, 115, 116]⟩ : ByteArray), (⟨#[118, 97, 114]⟩ : ByteArray), (⟨#[99, 111, 109, 112, 116, 105, 109, 101]⟩ : ByteArray), (⟨#[114, 101, 116, 117, 114, 110]⟩ : ByteArray), (⟨#[101, 114, 114, 111, 114]⟩ : ByteArray), (⟨#[105, 102]⟩ : ByteArray), (⟨#[101, 108, 115, 101]⟩ : ByteArray), (⟨#[119, 104, 105, 108, 101]⟩ : ByteArray), (⟨#[102, 111, 114]⟩ : ByteArray), (⟨#[105, 110, 108, 105, 110, 101]⟩ : ByteArray), (⟨#[115, 119, 105, 116, 99, 104]⟩ : ByteArray), (⟨#[100, 101, 102, 101, 114]⟩ : ByteArray), (⟨#[101, 114, 114, 100, 101, 102, 101, 114]⟩ : ByteArray), (⟨#[98, 114, 101, 97, 107]⟩ : ByteArray), (⟨#[99, 111, 110, 116, 105, 110, 117, 101]⟩ : ByteArray), (⟨#[103, 105, 118, 101]⟩ : ByteArray), (⟨#[117, 110, 114, 101, 97, 99, 104, 97, 98, 108, 101]⟩ : ByteArray), (⟨#[116, 114, 117, 101]⟩ : ByteArray), (⟨#[102, 97, 108, 115, 101]⟩ : ByteArray), (⟨#[97, 110, 100]⟩ : ByteArray), (⟨#[111, 114]⟩ : ByteArray), (⟨#[116, 114, 121]⟩ : ByteArray), (⟨#[99, 97, 116, 99, 104]⟩ : ByteArray), (⟨#[111, 114, 101, 108, 115, 101]⟩ : ByteArray), (⟨#[100, 111]⟩ : ByteArray), (⟨#[118, 111, 105, 100]⟩ : ByteArray), (⟨#[98, 111, 111, 108]⟩ : ByteArray), (⟨#[116, 121, 112, 101]⟩ : ByteArray), (⟨#[95]⟩ : ByteArray)] : List ByteArray)) (inner := [.string (⟨#[102, 110]⟩ : ByteArray), .string (⟨#[99, 111, 110, 115, 116]⟩ : ByteArray), .string (⟨#[118, 97, 114]⟩ : ByteArray), .string (⟨#[99, 111, 109, 112, 116, 105, 109, 101]⟩ : ByteArray), .string (⟨#[114, 101, 116, 117, 114, 110]⟩ : ByteArray), .string (⟨#[101, 114, 114, 111, 114]⟩ : ByteArray), .string (⟨#[105, 102]⟩ : ByteArray), .string (⟨#[101, 108, 115, 101]⟩ : ByteArray), .string (⟨#[119, 104, 105, 108, 101]⟩ : ByteArray), .string (⟨#[102, 111, 114]⟩ : ByteArray), .string (⟨#[105, 110, 108, 105, 110, 101]⟩ : ByteArray), .string (⟨#[115, 119, 105, 116, 99, 104]⟩ : ByteArray), .string (⟨#[100, 101, 102, 101, 114]⟩ : ByteArray), .string (⟨#[101, 114, 114, 100, 101, 102, 101, 114]⟩ : ByteArray), .string (⟨#[98, 114, 101, 97, 107]⟩ : ByteArray), .string (⟨#[99, 111, 110, 116, 105, 110, 117, 101]⟩ : ByteArray), .string (⟨#[103, 105, 118, 101]⟩ : ByteArray), .string (⟨#[117, 110, 114, 101, 97, 99, 104, 97, 98, 108, 101]⟩ : ByteArray), .string (⟨#[116, 114, 117, 101]⟩ : ByteArray), .string (⟨#[102, 97, 108, 115, 101]⟩ : ByteArray), .string (⟨#[97, 110, 100]⟩ : ByteArray), .string (⟨#[111, 114]⟩ : ByteArray), .string (⟨#[116, 114, 121]⟩ : ByteArray), .string (⟨#[99, 97, 116, 99, 104]⟩ : ByteArray), .string (⟨#[111, 114, 101, 108, 115, 101]⟩ : ByteArray), .string (⟨#[100, 111]⟩ : ByteArray), .string (⟨#[118, 111, 105, 100]⟩ : ByteArray), .string (⟨#[98, 111, 111, 108]⟩ : ByteArray), .string (⟨#[116, 121, 112, 101]⟩ : ByteArray), .string (⟨#[95]⟩ : ByteArray)]) (ok := fun _ => True) (pz := fun _ => True) ?hr ?hp (fun _ hk => hk) trivial (Below.refl _ _) (Nat.le_refl _) (by simp) ?_; (case hd => rfl); (case hg => rfl); (case hr => first | (go_simp; done) | (go_simp; rfl)); (case hp => exact (dh.one (show Kd.M Kd.string _ _ _ (⟨#[102, 110]⟩ : ByteArray) [.string (⟨#[102, 110]⟩ : ByteArray)] from rfl) (dh.one (show Kd.M Kd.string _ _ _ (⟨#[99, 111, 110, 115, 116]⟩ : ByteArray) [.string (⟨#[99, 111, 110, 115, 116]⟩ : ByteArray)] from rfl) (dh.one (show Kd.M Kd.string _ _ _ (⟨#[118, 97, 114]⟩ : ByteArray) [.string (⟨#[118, 97, 114]⟩ : ByteArray)] from rfl) (dh.one (show Kd.M Kd.string _ _ _ (⟨#[99, 111, 109, 112, 116, 105, 109, 101]⟩ : ByteArray) [.string (⟨#[99, 111, 109, 112, 116, 105, 109, 101]⟩ : ByteArray)] from rfl) (dh.one (show Kd.M Kd.string _ _ _ (⟨#[114, 101, 116, 117, 114, 110]⟩ : ByteArray) [.string (⟨#[114, 101, 116, 117, 114, 110]⟩ : ByteArray)] from rfl) (dh.one (show Kd.M Kd.string _ _ _ (⟨#[101, 114, 114, 111, 114]⟩ : ByteArray) [.string (⟨#[101, 114, 114, 111, 114]⟩ : ByteArray)] from rfl) (dh.one (show Kd.M Kd.string _ _ _ (⟨#[105, 102]⟩ : ByteArray) [.string (⟨#[105, 102]⟩ : ByteArray)] from rfl) (dh.one (show Kd.M Kd.string _ _ _ (⟨#[101, 108, 115, 101]⟩ : ByteArray) [.string (⟨#[101, 108, 115, 101]⟩ : ByteArray)] from rfl) (dh.one (show Kd.M Kd.string _ _ _ (⟨#[119, 104, 105, 108, 101]⟩ : ByteArray) [.string (⟨#[119, 104, 105, 108, 101]⟩ : ByteArray)] from rfl) (dh.one (show Kd.M Kd.string _ _ _ (⟨#[102, 111, 114]⟩ : ByteArray) [.string (⟨#[102, 111, 114]⟩ : ByteArray)] from rfl) (dh.one (show Kd.M Kd.string _ _ _ (⟨#[105, 110, 108, 105, 110, 101]⟩ : ByteArray) [.string (⟨#[105, 110, 108, 105, 110, 101]⟩ : ByteArray)] from rfl) (dh.one (show Kd.M Kd.string _ _ _ (⟨#[115, 119, 105, 116, 99, 104]⟩ : ByteArray) [.string (⟨#[115, 119, 105, 116, 99, 104]⟩ : ByteArray)] from rfl) (dh.one (show Kd.M Kd.string _ _ _ (⟨#[100, 101, 102, 101, 114]⟩ : ByteArray) [.string (⟨#[100, 101, 102, 101, 114]⟩ : ByteArray)] from rfl) (dh.one (show Kd.M Kd.string _ _ _ (⟨#[101, 114, 114, 100, 101, 102, 101, 114]⟩ : ByteArray) [.string (⟨#[101, 114, 114, 100, 101, 102, 101, 114]⟩ : ByteArray)] from rfl) (dh.one (show Kd.M Kd.string _ _ _ (⟨#[98, 114, 101, 97, 107]⟩ : ByteArray) [.string (⟨#[98, 114, 101, 97, 107]⟩ : ByteArray)] from rfl) (dh.one (show Kd.M Kd.string _ _ _ (⟨#[99, 111, 110, 116, 105, 110, 117, 101]⟩ : ByteArray) [.string (⟨#[99, 111, 110, 116, 105, 110, 117, 101]⟩ : ByteArray)] from rfl) (dh.one (show Kd.M Kd.string _ _ _ (⟨#[103, 105, 118, 101]⟩ : ByteArray) [.string (⟨#[103, 105, 118, 101]⟩ : ByteArray)] from rfl) (dh.one (show Kd.M Kd.string _ _ _ (⟨#[117, 110, 114, 101, 97, 99, 104, 97, 98, 108, 101]⟩ : ByteArray) [.string (⟨#[117, 110, 114, 101, 97, 99, 104, 97, 98, 108, 101]⟩ : ByteArray)] from rfl) (dh.one (show Kd.M Kd.string _ _ _ (⟨#[116, 114, 117, 101]⟩ : ByteArray) [.string (⟨#[116, 114, 117, 101]⟩ : ByteArray)] from rfl) (dh.one (show Kd.M Kd.string _ _ _ (⟨#[102, 97, 108, 115, 101]⟩ : ByteArray) [.string (⟨#[102, 97, 108, 115, 101]⟩ : ByteArray)] from rfl) (dh.one (show Kd.M Kd.string _ _ _ (⟨#[97, 110, 100]⟩ : ByteArray) [.string (⟨#[97, 110, 100]⟩ : ByteArray)] from rfl) (dh.one (show Kd.M Kd.string _ _ _ (⟨#[111, 114]⟩ : ByteArray) [.string (⟨#[111, 114]⟩ : ByteArray)] from rfl) (dh.one (show Kd.M Kd.string _ _ _ (⟨#[116, 114, 121]⟩ : ByteArray) [.string (⟨#[116, 114, 121]⟩ : ByteArray)] from rfl) (dh.one (show Kd.M Kd.string _ _ _ (⟨#[99, 97, 116, 99, 104]⟩ : ByteArray) [.string (⟨#[99, 97, 116, 99, 104]⟩ : ByteArray)] from rfl) (dh.one (show Kd.M Kd.string _ _ _ (⟨#[111, 114, 101, 108, 115, 101]⟩ : ByteArray) [.string (⟨#[111, 114, 101, 108, 115, 101]⟩ : ByteArray)] from rfl) (dh.one (show Kd.M Kd.string _ _ _ (⟨#[100, 111]⟩ : ByteArray) [.string (⟨#[100, 111]⟩ : ByteArray)] from rfl) (dh.one (show Kd.M Kd.string _ _ _ (⟨#[118, 111, 105, 100]⟩ : ByteArray) [.string (⟨#[118, 111, 105, 100]⟩ : ByteArray)] from rfl) (dh.one (show Kd.M Kd.string _ _ _ (⟨#[98, 111, 111, 108]⟩ : ByteArray) [.string (⟨#[98, 111, 111, 108]⟩ : ByteArray)] from rfl) (dh.one (show Kd.M Kd.string _ _ _ (⟨#[116, 121, 112, 101]⟩ : ByteArray) [.string (⟨#[116, 121, 112, 101]⟩ : ByteArray)] from rfl) (dh.one (show Kd.M Kd.string _ _ _ (⟨#[95]⟩ : ByteArray) [.string (⟨#[95]⟩ : ByteArray)] from rfl) (dh.none _ _)))))))))))))))))))))))))))))))); intro v210 w1 ho2 hb ND NG; clear ND NG; (first | rw [← Ua.out] at ho2 | (simp only [Int.reduceToNat] at ho2; rw [← Ua.out] at ho2)); have ay := am (Kd.sZ ho2 (bZ (by repeat (first | (with_reducible first | exact HB.out | apply bA | apply pN | apply au) | exact HB.out)))); have aA := am (bP (by repeat (first | (with_reducible first | exact HB.out | apply bA | apply pN | apply au) | exact HB.out)) hb); clear HB; have afD := ay; have HB := aA; clear ay aA; clear hb ho2))
 go_ret
 exact ⟨_, by first | rfl | (simp [aQ, aR] <;> rfl) | (simp [*, aQ, aR] <;> rfl), by (with_reducible repeat (first | apply Kd.kK | apply Kd.ku | apply Kd.kM)); exact afD.out, by repeat (first | (with_reducible first | exact HB.out | apply bA | apply pN | apply au) | exact HB.out)⟩
noncomputable def gM.l0 : Nat → ByteArray → List ByteArray → Int → Option (Bool)
 | 0, _, _, _ => none
 | k + 1, x0, x3, x4 => if x4 < (x3.length : Int) then (if 0 ≤ x4 then (if (fG ByteArray.empty x3 x4).toList = x0.toList then (some true) else (gM.l0 k x0 x3 (wrap64 (x4 + 1)))) else (none)) else (some false)
noncomputable def gM.f (k : Nat) (a0 : ByteArray) : Option (Bool) := (BL.f).bind fun t212 => (gM.l0 k a0 t212 0)
theorem gM.gy : ∀ k, (∀ y0 y1 y2, aN (gM.l0 k y0 y1 y2) (gM.l0 (k + 1) y0 y1 y2))
 | 0 => fun _ _ _ r h => by simp [gM.l0] at h
 | k + 1 => by
  have cZ := gM.gy k
  ·intro y0 y1 y2
   unfold gM.l0
   repeat' first
   | (with_reducible exact cZ _ _ _)
   | (with_reducible exact aN.refl _)
   | (with_reducible exact aN.none _)
   | (with_reducible refine aN.ite ?_ ?_)
   | (with_reducible refine aN.bind ?_ (fun _ => ?_))
   | exact cZ _ _ _
   | exact aN.none _
   | refine aN.ite ?_ ?_
   | refine aN.bind ?_ (fun _ => ?_)
theorem gM.mono : ∀ a0 k, aN (gM.f k a0) (gM.f (k + 1) a0) := by
 intro a0 k
 have cZ := gM.gy k
 unfold gM.f
 repeat' first
  | (with_reducible exact cZ _ _ _)
  | (with_reducible exact aN.refl _)
  | (with_reducible exact aN.none _)
  | (with_reducible refine aN.ite ?_ ?_)
  | (with_reducible refine aN.bind ?_ (fun _ => ?_))
  | exact cZ _ _ _
  | exact aN.none _
  | refine aN.ite ?_ ?_
  | refine aN.bind ?_ (fun _ => ?_)
theorem gM.calls (k : Nat) (a0 : ByteArray) (r : Bool) (w : World) (h : gM.f k a0 = some r) :
 Calls Tryz.prog 141 #[.string a0] w fun e w' => e = .returned (.bool r) ∧ Below w.heap.size w w' := by
 have HB := am (Below.refl w.heap.size w)
 have H : ((BL.f).bind fun t212 => (gM.l0 k a0 t212 0)) = some r := h
 clear h
 replace H := Option.bind_eq_some_iff.mp H
 obtain ⟨t212, f_, H⟩ := H
 replace H : (gM.l0 k a0 t212 0) = some r := H
 have A2 := am f_
 clear f_
 have H' := am H
 clear H
 go_enter Tryz.func141, Tryz.ntmps141
 go_wp2_with (first | ((with_reducible refine bY (f := 194) rfl ?_); refine b_ (some 5) rfl rfl Tryz.func194 (by kernel_rfl) rfl #[] rfl (by (try simp only [List.map_toArray, List.map_cons, List.map_nil]); first | done | rfl | (simp only [List.length_drop, List.length_take]; rfl)) ?_; (with_reducible refine (BL.calls  t212 _ A2.out).mono ?_); rintro e w3 ⟨afE, rfl, ho0, hb⟩; refine ⟨_, rfl, ?_⟩; have ay := am (Kd.sZ ho0 (bZ (by repeat (first | (with_reducible first | exact HB.out | apply bA | apply pN | apply au) | exact HB.out)))); have aA := am (bP (by repeat (first | (with_reducible first | exact HB.out | apply bA | apply pN | apply au) | exact HB.out)) hb); clear HB; have afF := ay; have HB := aA; clear ay aA; (try clear hb); (try clear hb2); (try clear hk); (try clear hi); (try clear ho0)))
 go_loopg [4] k (fun kq v4 w' => ∃ (dD : Int), v4 = .int .i64 dD ∧ bI (gM.l0 kq a0 t212 dD = some r) ∧ bI (kq ≤ k) ∧ bI (Kd.R Kd.string 9 w' w.heap.size (fun _ => True) afE t212) ∧ bI (Below w.heap.size w w'))
 case atStart => exact ⟨(0), (by first | rfl | (simp; done) | (simp [*]; done)), H', ⟨Nat.le_refl _⟩, ⟨by (with_reducible repeat (first | apply Kd.kK | apply Kd.ku | apply Kd.kM)); exact afF.out⟩, ⟨by repeat (first | (with_reducible first | exact HB.out | apply bA | apply pN | apply au) | exact HB.out)⟩⟩
 case round =>
  clear H'
  try clear c1
  try clear p2
  obtain ⟨dD, rfl, HA, eu, Cw, HB⟩ := hrel
  cases gk with
  | zero => exact absurd HA.out (by simp [gM.l0])
  | succ k1 =>
   have H := HA.out
   clear HA
   simp only [gM.l0] at H
   by_cases c4 : dD < (t212.length : Int)
   ·rw [if_pos c4] at H
    have fJ : decide (dD < (t212.length : Int)) = true := decide_eq_true c4
    clear c4
    by_cases c5 : 0 ≤ dD
    ·rw [if_pos c5] at H
     have g_ : decide (0 ≤ dD) = true := decide_eq_true c5
     clear c5
     by_cases c6 : (fG ByteArray.empty t212 dD).toList = a0.toList
     ·rw [if_pos c6] at H
      have gT : ((fG ByteArray.empty t212 dD).toList == a0.toList) = true := beq_iff_eq.mpr c6
      have mP : ((fG ByteArray.empty t212 dD).toList != a0.toList) = false := bne_eq_false_iff_eq.mpr c6
      clear c6
      obtain rfl := Option.some.inj H
      obtain ⟨Ao7, co7, eo7⟩ := Kd.rO Cw.out
      subst eo7
      have AP : 0 ≤ (dD : Int) := of_decide_eq_true (by first | (with_reducible assumption) | assumption)
      have AQ : dD < (t212.length : Int) := of_decide_eq_true (by first | (with_reducible assumption) | assumption)
      obtain ⟨afH, e215, afI⟩ := Kd.vK (Kd.pq Cw.out).2.2 dD AP AQ
      cases e215
      replace AP := eq_true AP
      replace AQ := eq_true AQ
      go_wp2
      go_ret
      exact ⟨by first | rfl | (simp [aQ, aR] <;> rfl) | (simp [*, aQ, aR] <;> rfl), by repeat (first | (with_reducible first | exact HB.out | apply bA | apply pN | apply au) | exact HB.out)⟩
     ·rw [if_neg c6] at H
      have gT : ((fG ByteArray.empty t212 dD).toList == a0.toList) = false := beq_eq_false_iff_ne.mpr c6
      have mP : ((fG ByteArray.empty t212 dD).toList != a0.toList) = true := bne_iff_ne.mpr c6
      have H' := am H
      clear H
      obtain ⟨Ao8, co8, eo8⟩ := Kd.rO Cw.out
      subst eo8
      have AP : 0 ≤ (dD : Int) := of_decide_eq_true (by first | (with_reducible assumption) | assumption)
      have AQ : dD < (t212.length : Int) := of_decide_eq_true (by first | (with_reducible assumption) | assumption)
      obtain ⟨afH, e215, afI⟩ := Kd.vK (Kd.pq Cw.out).2.2 dD AP AQ
      cases e215
      replace AP := eq_true AP
      replace AQ := eq_true AQ
      go_wp2
      go_roundg k1
      case measure => have := eu.out; omega
      case rel => exact ⟨(wrap64 (dD + 1)), (by first | rfl | (simp; done) | (simp [*]; done)), H', ⟨by have := eu.out; omega⟩, ⟨by (with_reducible repeat (first | apply Kd.kK | apply Kd.ku | apply Kd.kM)); exact Cw.out⟩, ⟨by repeat (first | (with_reducible first | exact HB.out | apply bA | apply pN | apply au) | exact HB.out)⟩⟩
    ·rw [if_neg c5] at H
     exact absurd H (by simp)
   ·rw [if_neg c4] at H
    have fJ : decide (dD < (t212.length : Int)) = false := decide_eq_false c4
    clear c4
    obtain rfl := Option.some.inj H
    obtain ⟨Ao9, co9, NP⟩ := Kd.rO Cw.out
    subst NP
    go_wp2
    go_ret
    exact ⟨by first | rfl | (simp [aQ, aR] <;> rfl) | (simp [*, aQ, aR] <;> rfl), by repeat (first | (with_reducible first | exact HB.out | apply bA | apply pN | apply au) | exact HB.out)⟩
end Go.Proofs.YtgliaoanlhbepaaGreatDoor.Q
