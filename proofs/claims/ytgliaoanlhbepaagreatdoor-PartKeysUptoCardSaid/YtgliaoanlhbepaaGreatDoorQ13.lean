/- Walks, printed by a program of this session: what each function of the law computes. -/
import Derived.Test.YtgliaoanlhbepaaGreatDoorQ0
import Derived.Test.YtgliaoanlhbepaaGreatDoorQ7
import Derived.Test.YtgliaoanlhbepaaGreatDoorQ11
import Derived.Test.YtgliaoanlhbepaaGreatDoorQ12
namespace Go.Proofs.YtgliaoanlhbepaaGreatDoor.Q
open Go.RowKit Go.Proofs.bT.eG Go.Proofs.bT.iM Go.Proofs.bT.jd
open Go.Proofs.bT.eG renaming lF → pN, lZ → au, l6 → bA, mZ → bS, m_ → bZ, ng → bP, ni → kN, nk → kD, nu → kA, ny → fz, nA → kB, lH → kL
attribute [local go_sem] nC nD nE nG nH nI nJ nK
set_option maxHeartbeats 8000000
set_option maxRecDepth 100000
set_option linter.unusedVariables false
set_option linter.unusedSimpArgs false
noncomputable def gZ.l0 : Nat → ByteArray → List (eP) → Int → Option (ByteArray × Int)
 | 0, _, _, _ => none
 | k + 1, x0, x1, x6 => if x6 < (x1.length : Int) then (if 0 ≤ x6 then ((dI.f k ((ak x1 x6).f0.f0) ((ak x1 x6).f0.f1) ((ak x1 x6).f0.f2) ((ak x1 x6).f0.f3) ((ak x1 x6).f0.f4) ((ak x1 x6).f0.f0) ((ak x1 x6).f0.f1) ((ak x1 x6).f0.f2) ((ak x1 x6).f0.f3) ((ak x1 x6).f0.f4) ((ak x1 x6).f1) ((ak x1 x6).f2) ((ak x1 x6).f3) ((ak x1 x6).f4.f0) ((ak x1 x6).f4.f1) ((ak x1 x6).f4.f2) ((ak x1 x6).f4.f3) ((ak x1 x6).f4.f4)).bind fun t274 => (if t274 = 0 then (gZ.l0 k x0 x1 (wrap64 (x6 + 1))) else (some ((⟨#[]⟩ : ByteArray), 1)))) else (none)) else ((kI.f k x0 x1).bind fun t275 => (some (t275, 0)))
noncomputable def gZ.f (k : Nat) (a0 : ByteArray) (l1 : List (eP)) : Option (ByteArray × Int) := gZ.l0 k a0 l1 0
noncomputable def gZ.T4 : Bool × List (List Nat × List Nat) := (true, [([], []), ([], []), ([0, 1], [0, 1]), ([2], [2]), ([3], [3]), ([], []), ([], []), ([5, 6], [5, 6]), ([7], [7]), ([4, 8], [4, 8]), ([9], [9])])
noncomputable def gZ.B4 : List Nat := [0, 0, 3, 7, 15, 0, 0, 96, 224, 511, 1023]
theorem gZ.SB : jU .any (opsOf Tryz.f5 4) = gZ.T4 := by kernel_rfl
theorem gZ.SC : Ej gZ.T4.2 gZ.B4 = true := by kernel_rfl
theorem gZ.calls (k : Nat) (a0 : ByteArray) (A1 : Option Addr) (c1 : Nat) (l1 : List (eP)) (r1 : ByteArray) (r2 : Int) (w : World) (hr1 : Kd.C uw w A1 l1.length l1) (hc1 : l1.length ≤ c1) (h : gZ.f k a0 l1 = some (r1, r2)) :
 Calls Tryz.prog 5 #[.string a0, .slice A1 l1.length c1] w fun e w' => e = .returned (.tuple #[.string r1, .int .i64 r2]) ∧ Below w.heap.size w w' := by
 have lI := Tryz.underlying29
 have wW := Tryz.underlying31
 have HR1 := am hr1
 have o9 := am hc1
 clear hr1 hc1
 have HB := am (Below.refl w.heap.size w)
 have H : (gZ.l0 k a0 l1 0) = some (r1, r2) := h
 clear h
 have H' := am H
 clear H
 go_enter Tryz.func5, Tryz.ntmps5
 go_wp2
 go_loopg [6] k (fun kq v6 w' => ∃ (aH : Int), v6 = .int .i64 aH ∧ bI (gZ.l0 kq a0 l1 aH = some (r1, r2)) ∧ bI (kq ≤ k) ∧ bI (Below w.heap.size w w'))
 case atStart => exact ⟨(0), (by first | rfl | (simp; done) | (simp [*]; done)), H', ⟨Nat.le_refl _⟩, ⟨by repeat (first | (with_reducible first | exact HB.out | apply bA | apply pN | apply au) | exact HB.out)⟩⟩
 case round =>
  clear H'
  try clear c1
  try clear p2
  obtain ⟨aH, rfl, HA, eu, HB⟩ := hrel
  cases gk with
  | zero => exact absurd HA.out (by simp [gZ.l0])
  | succ k1 =>
   have H := HA.out
   clear HA
   simp only [gZ.l0] at H
   by_cases c3 : aH < (l1.length : Int)
   ·rw [if_pos c3] at H
    have gH : decide (aH < (l1.length : Int)) = true := decide_eq_true c3
    clear c3
    by_cases c4 : 0 ≤ aH
    ·rw [if_pos c4] at H
     have fJ : decide (0 ≤ aH) = true := decide_eq_true c4
     clear c4
     replace H := Option.bind_eq_some_iff.mp H
     obtain ⟨t274, jA, H⟩ := H
     replace H : (if t274 = 0 then (gZ.l0 k1 a0 l1 (wrap64 (aH + 1))) else (some ((⟨#[]⟩ : ByteArray), 1))) = some (r1, r2) := H
     have A5 := am jA
     clear jA
     by_cases c6 : t274 = 0
     ·rw [if_pos c6] at H
      have gT : (t274 == 0) = true := beq_iff_eq.mpr c6
      have mP : (t274 != 0) = false := bne_eq_false_iff_eq.mpr c6
      clear c6
      have H' := am H
      clear H
      try go_wp2
      have ay := am (au HB.out)
      clear HB
      have HB := ay
      clear ay
      have zI : 0 ≤ (aH : Int) := of_decide_eq_true (by first | (with_reducible assumption) | assumption)
      have zJ : aH < (l1.length : Int) := of_decide_eq_true (by first | (with_reducible assumption) | assumption)
      obtain ⟨bW, e272, qz, qA, qB, qC, qD, qE, qF, qG, qH, qI, qJ, qK, qL⟩ := uy HR1.out aH zI zJ
      have uO := qL
      have uP := qK
      have uQ := qJ
      have uR := qI
      have uS := qH
      have uT := qG
      have uU := qF
      have uV := qE
      have uW := qD
      have uX := qC
      have uY := qB
      have uZ := qA
      have u6 := qz
      cases e272
      replace qz := (HB.out.cell (World.block_lt_of_cell? w _ qz)).trans qz
      replace qA := (HB.out.cell (World.block_lt_of_cell? w _ qA)).trans qA
      replace qB := (HB.out.cell (World.block_lt_of_cell? w _ qB)).trans qB
      replace qC := (HB.out.cell (World.block_lt_of_cell? w _ qC)).trans qC
      replace qD := (HB.out.cell (World.block_lt_of_cell? w _ qD)).trans qD
      replace qE := (HB.out.cell (World.block_lt_of_cell? w _ qE)).trans qE
      replace qF := (HB.out.cell (World.block_lt_of_cell? w _ qF)).trans qF
      replace qG := (HB.out.cell (World.block_lt_of_cell? w _ qG)).trans qG
      replace qH := (HB.out.cell (World.block_lt_of_cell? w _ qH)).trans qH
      replace qI := (HB.out.cell (World.block_lt_of_cell? w _ qI)).trans qI
      replace qJ := (HB.out.cell (World.block_lt_of_cell? w _ qJ)).trans qJ
      replace qK := (HB.out.cell (World.block_lt_of_cell? w _ qK)).trans qK
      replace qL := (HB.out.cell (World.block_lt_of_cell? w _ qL)).trans qL
      replace zI := eq_true zI
      replace zJ := eq_true zJ
      have zK : 0 ≤ (aH : Int) := of_decide_eq_true (by first | (with_reducible assumption) | assumption)
      have zL : aH < (l1.length : Int) := of_decide_eq_true (by first | (with_reducible assumption) | assumption)
      obtain ⟨MG, e273, qM, qN, qO, qP, qQ, qR, qU, qV, qW, qX, qY, qZ, q9⟩ := uy HR1.out aH zK zL
      have u7 := q9
      have u_ := qZ
      have vg := qY
      have vk := qX
      have vo := qW
      have vv := qV
      have vw := qU
      have vB := qR
      have vC := qQ
      have vD := qP
      have vE := qO
      have vF := qN
      have vG := qM
      obtain rfl : bW = MG := (by injection e273)
      replace qM := (HB.out.cell (World.block_lt_of_cell? w _ qM)).trans qM
      replace qN := (HB.out.cell (World.block_lt_of_cell? w _ qN)).trans qN
      replace qO := (HB.out.cell (World.block_lt_of_cell? w _ qO)).trans qO
      replace qP := (HB.out.cell (World.block_lt_of_cell? w _ qP)).trans qP
      replace qQ := (HB.out.cell (World.block_lt_of_cell? w _ qQ)).trans qQ
      replace qR := (HB.out.cell (World.block_lt_of_cell? w _ qR)).trans qR
      replace qU := (HB.out.cell (World.block_lt_of_cell? w _ qU)).trans qU
      replace qV := (HB.out.cell (World.block_lt_of_cell? w _ qV)).trans qV
      replace qW := (HB.out.cell (World.block_lt_of_cell? w _ qW)).trans qW
      replace qX := (HB.out.cell (World.block_lt_of_cell? w _ qX)).trans qX
      replace qY := (HB.out.cell (World.block_lt_of_cell? w _ qY)).trans qY
      replace qZ := (HB.out.cell (World.block_lt_of_cell? w _ qZ)).trans qZ
      replace q9 := (HB.out.cell (World.block_lt_of_cell? w _ q9)).trans q9
      replace zK := eq_true zK
      replace zL := eq_true zL
      refine G9 (n := 11) (S := fun w' => w'.cell? (bW.add ((aH).toNat * 13)) = some (.int .i64 ((ak l1 aH).f0.f0)) ∧ w'.cell? ⟨(bW.add ((aH).toNat * 13)).block, (bW.add ((aH).toNat * 13)).off + 1, none⟩ = some (.int .i64 ((ak l1 aH).f0.f1)) ∧ w'.cell? ⟨(bW.add ((aH).toNat * 13)).block, (bW.add ((aH).toNat * 13)).off + 2, none⟩ = some (.string ((ak l1 aH).f0.f2)) ∧ w'.cell? ⟨(bW.add ((aH).toNat * 13)).block, (bW.add ((aH).toNat * 13)).off + 3, none⟩ = some (.bool ((ak l1 aH).f0.f3)) ∧ w'.cell? ⟨(bW.add ((aH).toNat * 13)).block, (bW.add ((aH).toNat * 13)).off + 4, none⟩ = some (.bool ((ak l1 aH).f0.f4)) ∧ w'.cell? ⟨(bW.add ((aH).toNat * 13)).block, (bW.add ((aH).toNat * 13)).off + 5, none⟩ = some (.int .i64 ((ak l1 aH).f1)) ∧ w'.cell? ⟨(bW.add ((aH).toNat * 13)).block, (bW.add ((aH).toNat * 13)).off + 6, none⟩ = some (.bool ((ak l1 aH).f2)) ∧ w'.cell? ⟨(bW.add ((aH).toNat * 13)).block, (bW.add ((aH).toNat * 13)).off + 7, none⟩ = some (.string ((ak l1 aH).f3)) ∧ w'.cell? ⟨(bW.add ((aH).toNat * 13)).block, (bW.add ((aH).toNat * 13)).off + 8, none⟩ = some (.int .i64 ((ak l1 aH).f4.f0)) ∧ w'.cell? ⟨(bW.add ((aH).toNat * 13)).block, (bW.add ((aH).toNat * 13)).off + 9, none⟩ = some (.int .i64 ((ak l1 aH).f4.f1)) ∧ w'.cell? ⟨(bW.add ((aH).toNat * 13)).block, (bW.add ((aH).toNat * 13)).off + 10, none⟩ = some (.string ((ak l1 aH).f4.f2)) ∧ w'.cell? ⟨(bW.add ((aH).toNat * 13)).block, (bW.add ((aH).toNat * 13)).off + 11, none⟩ = some (.bool ((ak l1 aH).f4.f3)) ∧ w'.cell? ⟨(bW.add ((aH).toNat * 13)).block, (bW.add ((aH).toNat * 13)).off + 12, none⟩ = some (.bool ((ak l1 aH).f4.f4)) ∧ w'.cell? (bW.add ((aH).toNat * 13)) = some (.int .i64 ((ak l1 aH).f0.f0)) ∧ w'.cell? ⟨(bW.add ((aH).toNat * 13)).block, (bW.add ((aH).toNat * 13)).off + 1, none⟩ = some (.int .i64 ((ak l1 aH).f0.f1)) ∧ w'.cell? ⟨(bW.add ((aH).toNat * 13)).block, (bW.add ((aH).toNat * 13)).off + 2, none⟩ = some (.string ((ak l1 aH).f0.f2)) ∧ w'.cell? ⟨(bW.add ((aH).toNat * 13)).block, (bW.add ((aH).toNat * 13)).off + 3, none⟩ = some (.bool ((ak l1 aH).f0.f3)) ∧ w'.cell? ⟨(bW.add ((aH).toNat * 13)).block, (bW.add ((aH).toNat * 13)).off + 4, none⟩ = some (.bool ((ak l1 aH).f0.f4)) ∧ w'.cell? ⟨(bW.add ((aH).toNat * 13)).block, (bW.add ((aH).toNat * 13)).off + 5, none⟩ = some (.int .i64 ((ak l1 aH).f1)) ∧ w'.cell? ⟨(bW.add ((aH).toNat * 13)).block, (bW.add ((aH).toNat * 13)).off + 6, none⟩ = some (.bool ((ak l1 aH).f2)) ∧ w'.cell? ⟨(bW.add ((aH).toNat * 13)).block, (bW.add ((aH).toNat * 13)).off + 7, none⟩ = some (.string ((ak l1 aH).f3)) ∧ w'.cell? ⟨(bW.add ((aH).toNat * 13)).block, (bW.add ((aH).toNat * 13)).off + 8, none⟩ = some (.int .i64 ((ak l1 aH).f4.f0)) ∧ w'.cell? ⟨(bW.add ((aH).toNat * 13)).block, (bW.add ((aH).toNat * 13)).off + 9, none⟩ = some (.int .i64 ((ak l1 aH).f4.f1)) ∧ w'.cell? ⟨(bW.add ((aH).toNat * 13)).block, (bW.add ((aH).toNat * 13)).off + 10, none⟩ = some (.string ((ak l1 aH).f4.f2)) ∧ w'.cell? ⟨(bW.add ((aH).toNat * 13)).block, (bW.add ((aH).toNat * 13)).off + 11, none⟩ = some (.bool ((ak l1 aH).f4.f3)) ∧ w'.cell? ⟨(bW.add ((aH).toNat * 13)).block, (bW.add ((aH).toNat * 13)).off + 12, none⟩ = some (.bool ((ak l1 aH).f4.f4))) (ds := []) #[false, false, false, false, false, false, false, false, false, false, false] (by kernel_rfl) rfl rfl ⟨((HB.out.cell (World.block_lt_of_cell? w _ u6)).trans u6), ((HB.out.cell (World.block_lt_of_cell? w _ uZ)).trans uZ), ((HB.out.cell (World.block_lt_of_cell? w _ uY)).trans uY), ((HB.out.cell (World.block_lt_of_cell? w _ uX)).trans uX), ((HB.out.cell (World.block_lt_of_cell? w _ uW)).trans uW), ((HB.out.cell (World.block_lt_of_cell? w _ uV)).trans uV), ((HB.out.cell (World.block_lt_of_cell? w _ uU)).trans uU), ((HB.out.cell (World.block_lt_of_cell? w _ uT)).trans uT), ((HB.out.cell (World.block_lt_of_cell? w _ uS)).trans uS), ((HB.out.cell (World.block_lt_of_cell? w _ uR)).trans uR), ((HB.out.cell (World.block_lt_of_cell? w _ uQ)).trans uQ), ((HB.out.cell (World.block_lt_of_cell? w _ uP)).trans uP), ((HB.out.cell (World.block_lt_of_cell? w _ uO)).trans uO), ((HB.out.cell (World.block_lt_of_cell? w _ vG)).trans vG), ((HB.out.cell (World.block_lt_of_cell? w _ vF)).trans vF), ((HB.out.cell (World.block_lt_of_cell? w _ vE)).trans vE), ((HB.out.cell (World.block_lt_of_cell? w _ vD)).trans vD), ((HB.out.cell (World.block_lt_of_cell? w _ vC)).trans vC), ((HB.out.cell (World.block_lt_of_cell? w _ vB)).trans vB), ((HB.out.cell (World.block_lt_of_cell? w _ vw)).trans vw), ((HB.out.cell (World.block_lt_of_cell? w _ vv)).trans vv), ((HB.out.cell (World.block_lt_of_cell? w _ vo)).trans vo), ((HB.out.cell (World.block_lt_of_cell? w _ vk)).trans vk), ((HB.out.cell (World.block_lt_of_cell? w _ vg)).trans vg), ((HB.out.cell (World.block_lt_of_cell? w _ u_)).trans u_), ((HB.out.cell (World.block_lt_of_cell? w _ u7)).trans u7)⟩ (fun hHeld => ?_); refine SE gZ.SB gZ.SC (fun jf El => ?_)
      generalize wr.drew = w7 at HB qz qA qJ qK qL qB qC qD qE qF qG qH qI qM qN qY qZ q9 qO qP qQ qR qU qV qW qX hHeld ⊢
      refine kr (i := 0) (N := some 13) (v := ?_) (a' := ?_) #[true, false, false, false, false, false, false, false, false, false, false] rfl rfl (mo jf.out (by kernel_rfl)) (fun _ _ _ h => h) (Or.inl ⟨by rfl, ?_⟩) ?_ ?_
      rotate_left
      ·intro w'
       go_simp
       with_reducible rfl
      rotate_left
      ·simp only [Act.put, List.setIfInBounds_toArray, List.set_cons_zero, List.set_cons_succ, dS, eZ]
       rfl
      refine kr (i := 1) (N := some 14) (v := ?_) (a' := ?_) #[true, true, false, false, false, false, false, false, false, false, false] rfl rfl (mo jf.out (by kernel_rfl)) (fun _ _ _ h => h) (Or.inl ⟨by rfl, ?_⟩) ?_ ?_
      rotate_left
      ·intro w'
       go_simp
       with_reducible rfl
      rotate_left
      ·simp only [Act.put, List.setIfInBounds_toArray, List.set_cons_zero, List.set_cons_succ, dS, eZ]
       rfl
      refine kr (i := 2) (N := some 15) (v := ?_) (a' := ?_) #[true, true, true, false, false, false, false, false, false, false, false] rfl rfl (mo jf.out (by kernel_rfl)) (fun _ _ _ h => h) (Or.inl ⟨by rfl, ?_⟩) ?_ ?_
      rotate_left
      ·intro w'
       go_simp
       with_reducible rfl
      rotate_left
      ·simp only [Act.put, List.setIfInBounds_toArray, List.set_cons_zero, List.set_cons_succ, dS, eZ]
       rfl
      refine kr (i := 3) (N := some 16) (v := ?_) (a' := ?_) #[true, true, true, true, false, false, false, false, false, false, false] rfl rfl (mo jf.out (by kernel_rfl)) (fun _ _ _ h => h) (Or.inl ⟨by rfl, ?_⟩) ?_ ?_
      rotate_left
      ·intro w'
       go_simp
       with_reducible rfl
      rotate_left
      ·simp only [Act.put, List.setIfInBounds_toArray, List.set_cons_zero, List.set_cons_succ, dS, eZ]
       rfl
      refine kr (i := 5) (N := some 18) (v := ?_) (a' := ?_) #[true, true, true, true, false, true, false, false, false, false, false] rfl rfl (mo jf.out (by kernel_rfl)) (fun _ _ _ h => h) (Or.inl ⟨by rfl, ?_⟩) ?_ ?_
      rotate_left
      ·intro w'
       go_simp
       with_reducible rfl
      rotate_left
      ·simp only [Act.put, List.setIfInBounds_toArray, List.set_cons_zero, List.set_cons_succ, dS, eZ]
       rfl
      refine kr (i := 6) (N := some 19) (v := ?_) (a' := ?_) #[true, true, true, true, false, true, true, false, false, false, false] rfl rfl (mo jf.out (by kernel_rfl)) (fun _ _ _ h => h) (Or.inl ⟨by rfl, ?_⟩) ?_ ?_
      rotate_left
      ·intro w'
       go_simp
       with_reducible rfl
      rotate_left
      ·simp only [Act.put, List.setIfInBounds_toArray, List.set_cons_zero, List.set_cons_succ, dS, eZ]
       rfl
      refine kr (i := 7) (N := some 20) (v := ?_) (a' := ?_) #[true, true, true, true, false, true, true, true, false, false, false] rfl rfl (mo jf.out (by kernel_rfl)) (fun _ _ _ h => h) (Or.inl ⟨by rfl, ?_⟩) ?_ ?_
      rotate_left
      ·intro w'
       go_simp
       with_reducible rfl
      rotate_left
      ·simp only [Act.put, List.setIfInBounds_toArray, List.set_cons_zero, List.set_cons_succ, dS, eZ]
       rfl
      refine w_ (i := 4) (N := some 17) (v := ?_) (a' := ?_) #[true, true, true, true, true, true, true, true, false, false, false] rfl rfl (Hl jf.out El.out (by kernel_rfl)) (fun _ _ _ h => h) (Or.inl ⟨by rfl, ?_⟩) hHeld ?_ ?_
      rotate_left
      ·rintro w' ⟨s0, s1, s2, s3, s4, s5, s6, s7, s8, s9, s10, s11, s12, s13, zF, s15, s16, zG, MH, MI, s20, MJ, MK, ML, s24, MN⟩
       go_simp
       with_reducible rfl
      rotate_left
      ·simp only [Act.put, List.setIfInBounds_toArray, List.set_cons_zero, List.set_cons_succ, dS, eZ]
       rfl
      refine w_ (i := 8) (N := some 21) (v := ?_) (a' := ?_) #[true, true, true, true, true, true, true, true, true, false, false] rfl rfl (Hl jf.out El.out (by kernel_rfl)) (fun _ _ _ h => h) (Or.inl ⟨by rfl, ?_⟩) hHeld ?_ ?_
      rotate_left
      ·rintro w' ⟨s0, s1, s2, s3, s4, s5, s6, s7, s8, s9, s10, s11, s12, s13, zF, s15, s16, zG, MH, MI, s20, MJ, MK, ML, s24, MN⟩
       go_simp
       with_reducible rfl
      rotate_left
      ·simp only [Act.put, List.setIfInBounds_toArray, List.set_cons_zero, List.set_cons_succ, dS, eZ]
       rfl
      refine Ch (i := 9) (N := some 22) #[true, true, true, true, true, true, true, true, true, true, false] rfl rfl (SF jf.out (by kernel_rfl)) (by decide) (fun K hK => ?_)
      refine Ci Tryz.func9 (by kernel_rfl) rfl #[.agg #[.int .i64 ((ak l1 aH).f0.f0), .int .i64 ((ak l1 aH).f0.f1), .string ((ak l1 aH).f0.f2), .bool ((ak l1 aH).f0.f3), .bool ((ak l1 aH).f0.f4)], .agg #[.int .i64 ((ak l1 aH).f0.f0), .int .i64 ((ak l1 aH).f0.f1), .string ((ak l1 aH).f0.f2), .bool ((ak l1 aH).f0.f3), .bool ((ak l1 aH).f0.f4), .int .i64 ((ak l1 aH).f1), .bool ((ak l1 aH).f2), .string ((ak l1 aH).f3), .int .i64 ((ak l1 aH).f4.f0), .int .i64 ((ak l1 aH).f4.f1), .string ((ak l1 aH).f4.f2), .bool ((ak l1 aH).f4.f3), .bool ((ak l1 aH).f4.f4)]] (by rfl) rfl rfl (by (try simp only [List.map_toArray, List.map_cons, List.map_nil]); first | done | rfl | (simp only [List.length_drop, List.length_take]; rfl)) ?_
      with_reducible refine (dI.calls k1 ((ak l1 aH).f0.f0) ((ak l1 aH).f0.f1) ((ak l1 aH).f0.f2) ((ak l1 aH).f0.f3) ((ak l1 aH).f0.f4) ((ak l1 aH).f0.f0) ((ak l1 aH).f0.f1) ((ak l1 aH).f0.f2) ((ak l1 aH).f0.f3) ((ak l1 aH).f0.f4) ((ak l1 aH).f1) ((ak l1 aH).f2) ((ak l1 aH).f3) ((ak l1 aH).f4.f0) ((ak l1 aH).f4.f1) ((ak l1 aH).f4.f2) ((ak l1 aH).f4.f3) ((ak l1 aH).f4.f4) t274 _ A5.out).mono ?_
      rintro e w8 ⟨rfl, hb⟩
      refine ⟨_, rfl, ?_⟩
      have ay := am (bP (by repeat (first | (with_reducible first | exact HB.out | apply bA | apply pN | apply au) | exact HB.out)) hb)
      clear HB
      have HB := ay
      clear ay
      (try clear hb)
      (try clear hb2)
      (try clear hk)
      (try clear hi)
      refine hK.out _ _ ⟨((HB.out.cell (World.block_lt_of_cell? w _ u6)).trans u6), ((HB.out.cell (World.block_lt_of_cell? w _ uZ)).trans uZ), ((HB.out.cell (World.block_lt_of_cell? w _ uY)).trans uY), ((HB.out.cell (World.block_lt_of_cell? w _ uX)).trans uX), ((HB.out.cell (World.block_lt_of_cell? w _ uW)).trans uW), ((HB.out.cell (World.block_lt_of_cell? w _ uV)).trans uV), ((HB.out.cell (World.block_lt_of_cell? w _ uU)).trans uU), ((HB.out.cell (World.block_lt_of_cell? w _ uT)).trans uT), ((HB.out.cell (World.block_lt_of_cell? w _ uS)).trans uS), ((HB.out.cell (World.block_lt_of_cell? w _ uR)).trans uR), ((HB.out.cell (World.block_lt_of_cell? w _ uQ)).trans uQ), ((HB.out.cell (World.block_lt_of_cell? w _ uP)).trans uP), ((HB.out.cell (World.block_lt_of_cell? w _ uO)).trans uO), ((HB.out.cell (World.block_lt_of_cell? w _ vG)).trans vG), ((HB.out.cell (World.block_lt_of_cell? w _ vF)).trans vF), ((HB.out.cell (World.block_lt_of_cell? w _ vE)).trans vE), ((HB.out.cell (World.block_lt_of_cell? w _ vD)).trans vD), ((HB.out.cell (World.block_lt_of_cell? w _ vC)).trans vC), ((HB.out.cell (World.block_lt_of_cell? w _ vB)).trans vB), ((HB.out.cell (World.block_lt_of_cell? w _ vw)).trans vw), ((HB.out.cell (World.block_lt_of_cell? w _ vv)).trans vv), ((HB.out.cell (World.block_lt_of_cell? w _ vo)).trans vo), ((HB.out.cell (World.block_lt_of_cell? w _ vk)).trans vk), ((HB.out.cell (World.block_lt_of_cell? w _ vg)).trans vg), ((HB.out.cell (World.block_lt_of_cell? w _ u_)).trans u_), ((HB.out.cell (World.block_lt_of_cell? w _ u7)).trans u7)⟩ (fun hHeld => ?_)
      clear hK K
      refine Cj (a' := ?_) ?_ ?_
      rotate_left
      ·show Act.put _ (some 22) _ = _
       simp only [Act.put, List.setIfInBounds_toArray, List.set_cons_zero, List.set_cons_succ, dS, eZ]
       rfl
      refine kr (i := 10) (N := some 23) (v := ?_) (a' := ?_) #[true, true, true, true, true, true, true, true, true, true, true] rfl rfl (mo jf.out (by kernel_rfl)) (fun _ _ _ h => h) (Or.inl ⟨by rfl, ?_⟩) ?_ ?_
      rotate_left
      ·intro w'
       go_simp
       with_reducible rfl
      rotate_left
      ·simp only [Act.put, List.setIfInBounds_toArray, List.set_cons_zero, List.set_cons_succ, dS, eZ]
       rfl
      refine G_ (SG jf.out (by kernel_rfl)) ?_
      try go_wp2
      go_roundg k1
      case measure => have := eu.out; omega
      case rel => exact ⟨(wrap64 (aH + 1)), (by first | rfl | (simp; done) | (simp [*]; done)), H', ⟨by have := eu.out; omega⟩, ⟨by repeat (first | (with_reducible first | exact HB.out | apply bA | apply pN | apply au) | exact HB.out)⟩⟩
     ·rw [if_neg c6] at H
      have gT : (t274 == 0) = false := beq_eq_false_iff_ne.mpr c6
      have mP : (t274 != 0) = true := bne_iff_ne.mpr c6
      simp only [Option.some.injEq, Prod.mk.injEq] at H
      obtain ⟨rfl, rfl⟩ := H
      try go_wp2
      have ay := am (au HB.out)
      clear HB
      have HB := ay
      clear ay
      have zI : 0 ≤ (aH : Int) := of_decide_eq_true (by first | (with_reducible assumption) | assumption)
      have zJ : aH < (l1.length : Int) := of_decide_eq_true (by first | (with_reducible assumption) | assumption)
      obtain ⟨bW, e272, qz, qA, qB, qC, qD, qE, qF, qG, qH, qI, qJ, qK, qL⟩ := uy HR1.out aH zI zJ
      have uO := qL
      have uP := qK
      have uQ := qJ
      have uR := qI
      have uS := qH
      have uT := qG
      have uU := qF
      have uV := qE
      have uW := qD
      have uX := qC
      have uY := qB
      have uZ := qA
      have u6 := qz
      cases e272
      replace qz := (HB.out.cell (World.block_lt_of_cell? w _ qz)).trans qz
      replace qA := (HB.out.cell (World.block_lt_of_cell? w _ qA)).trans qA
      replace qB := (HB.out.cell (World.block_lt_of_cell? w _ qB)).trans qB
      replace qC := (HB.out.cell (World.block_lt_of_cell? w _ qC)).trans qC
      replace qD := (HB.out.cell (World.block_lt_of_cell? w _ qD)).trans qD
      replace qE := (HB.out.cell (World.block_lt_of_cell? w _ qE)).trans qE
      replace qF := (HB.out.cell (World.block_lt_of_cell? w _ qF)).trans qF
      replace qG := (HB.out.cell (World.block_lt_of_cell? w _ qG)).trans qG
      replace qH := (HB.out.cell (World.block_lt_of_cell? w _ qH)).trans qH
      replace qI := (HB.out.cell (World.block_lt_of_cell? w _ qI)).trans qI
      replace qJ := (HB.out.cell (World.block_lt_of_cell? w _ qJ)).trans qJ
      replace qK := (HB.out.cell (World.block_lt_of_cell? w _ qK)).trans qK
      replace qL := (HB.out.cell (World.block_lt_of_cell? w _ qL)).trans qL
      replace zI := eq_true zI
      replace zJ := eq_true zJ
      have zK : 0 ≤ (aH : Int) := of_decide_eq_true (by first | (with_reducible assumption) | assumption)
      have zL : aH < (l1.length : Int) := of_decide_eq_true (by first | (with_reducible assumption) | assumption)
      obtain ⟨MG, e273, qM, qN, qO, qP, qQ, qR, qU, qV, qW, qX, qY, qZ, q9⟩ := uy HR1.out aH zK zL
      have u7 := q9
      have u_ := qZ
      have vg := qY
      have vk := qX
      have vo := qW
      have vv := qV
      have vw := qU
      have vB := qR
      have vC := qQ
      have vD := qP
      have vE := qO
      have vF := qN
      have vG := qM
      obtain rfl : bW = MG := (by injection e273)
      replace qM := (HB.out.cell (World.block_lt_of_cell? w _ qM)).trans qM
      replace qN := (HB.out.cell (World.block_lt_of_cell? w _ qN)).trans qN
      replace qO := (HB.out.cell (World.block_lt_of_cell? w _ qO)).trans qO
      replace qP := (HB.out.cell (World.block_lt_of_cell? w _ qP)).trans qP
      replace qQ := (HB.out.cell (World.block_lt_of_cell? w _ qQ)).trans qQ
      replace qR := (HB.out.cell (World.block_lt_of_cell? w _ qR)).trans qR
      replace qU := (HB.out.cell (World.block_lt_of_cell? w _ qU)).trans qU
      replace qV := (HB.out.cell (World.block_lt_of_cell? w _ qV)).trans qV
      replace qW := (HB.out.cell (World.block_lt_of_cell? w _ qW)).trans qW
      replace qX := (HB.out.cell (World.block_lt_of_cell? w _ qX)).trans qX
      replace qY := (HB.out.cell (World.block_lt_of_cell? w _ qY)).trans qY
      replace qZ := (HB.out.cell (World.block_lt_of_cell? w _ qZ)).trans qZ
      replace q9 := (HB.out.cell (World.block_lt_of_cell? w _ q9)).trans q9
      replace zK := eq_true zK
      replace zL := eq_true zL
      refine G9 (n := 11) (S := fun w' => w'.cell? (bW.add ((aH).toNat * 13)) = some (.int .i64 ((ak l1 aH).f0.f0)) ∧ w'.cell? ⟨(bW.add ((aH).toNat * 13)).block, (bW.add ((aH).toNat * 13)).off + 1, none⟩ = some (.int .i64 ((ak l1 aH).f0.f1)) ∧ w'.cell? ⟨(bW.add ((aH).toNat * 13)).block, (bW.add ((aH).toNat * 13)).off + 2, none⟩ = some (.string ((ak l1 aH).f0.f2)) ∧ w'.cell? ⟨(bW.add ((aH).toNat * 13)).block, (bW.add ((aH).toNat * 13)).off + 3, none⟩ = some (.bool ((ak l1 aH).f0.f3)) ∧ w'.cell? ⟨(bW.add ((aH).toNat * 13)).block, (bW.add ((aH).toNat * 13)).off + 4, none⟩ = some (.bool ((ak l1 aH).f0.f4)) ∧ w'.cell? ⟨(bW.add ((aH).toNat * 13)).block, (bW.add ((aH).toNat * 13)).off + 5, none⟩ = some (.int .i64 ((ak l1 aH).f1)) ∧ w'.cell? ⟨(bW.add ((aH).toNat * 13)).block, (bW.add ((aH).toNat * 13)).off + 6, none⟩ = some (.bool ((ak l1 aH).f2)) ∧ w'.cell? ⟨(bW.add ((aH).toNat * 13)).block, (bW.add ((aH).toNat * 13)).off + 7, none⟩ = some (.string ((ak l1 aH).f3)) ∧ w'.cell? ⟨(bW.add ((aH).toNat * 13)).block, (bW.add ((aH).toNat * 13)).off + 8, none⟩ = some (.int .i64 ((ak l1 aH).f4.f0)) ∧ w'.cell? ⟨(bW.add ((aH).toNat * 13)).block, (bW.add ((aH).toNat * 13)).off + 9, none⟩ = some (.int .i64 ((ak l1 aH).f4.f1)) ∧ w'.cell? ⟨(bW.add ((aH).toNat * 13)).block, (bW.add ((aH).toNat * 13)).off + 10, none⟩ = some (.string ((ak l1 aH).f4.f2)) ∧ w'.cell? ⟨(bW.add ((aH).toNat * 13)).block, (bW.add ((aH).toNat * 13)).off + 11, none⟩ = some (.bool ((ak l1 aH).f4.f3)) ∧ w'.cell? ⟨(bW.add ((aH).toNat * 13)).block, (bW.add ((aH).toNat * 13)).off + 12, none⟩ = some (.bool ((ak l1 aH).f4.f4)) ∧ w'.cell? (bW.add ((aH).toNat * 13)) = some (.int .i64 ((ak l1 aH).f0.f0)) ∧ w'.cell? ⟨(bW.add ((aH).toNat * 13)).block, (bW.add ((aH).toNat * 13)).off + 1, none⟩ = some (.int .i64 ((ak l1 aH).f0.f1)) ∧ w'.cell? ⟨(bW.add ((aH).toNat * 13)).block, (bW.add ((aH).toNat * 13)).off + 2, none⟩ = some (.string ((ak l1 aH).f0.f2)) ∧ w'.cell? ⟨(bW.add ((aH).toNat * 13)).block, (bW.add ((aH).toNat * 13)).off + 3, none⟩ = some (.bool ((ak l1 aH).f0.f3)) ∧ w'.cell? ⟨(bW.add ((aH).toNat * 13)).block, (bW.add ((aH).toNat * 13)).off + 4, none⟩ = some (.bool ((ak l1 aH).f0.f4)) ∧ w'.cell? ⟨(bW.add ((aH).toNat * 13)).block, (bW.add ((aH).toNat * 13)).off + 5, none⟩ = some (.int .i64 ((ak l1 aH).f1)) ∧ w'.cell? ⟨(bW.add ((aH).toNat * 13)).block, (bW.add ((aH).toNat * 13)).off + 6, none⟩ = some (.bool ((ak l1 aH).f2)) ∧ w'.cell? ⟨(bW.add ((aH).toNat * 13)).block, (bW.add ((aH).toNat * 13)).off + 7, none⟩ = some (.string ((ak l1 aH).f3)) ∧ w'.cell? ⟨(bW.add ((aH).toNat * 13)).block, (bW.add ((aH).toNat * 13)).off + 8, none⟩ = some (.int .i64 ((ak l1 aH).f4.f0)) ∧ w'.cell? ⟨(bW.add ((aH).toNat * 13)).block, (bW.add ((aH).toNat * 13)).off + 9, none⟩ = some (.int .i64 ((ak l1 aH).f4.f1)) ∧ w'.cell? ⟨(bW.add ((aH).toNat * 13)).block, (bW.add ((aH).toNat * 13)).off + 10, none⟩ = some (.string ((ak l1 aH).f4.f2)) ∧ w'.cell? ⟨(bW.add ((aH).toNat * 13)).block, (bW.add ((aH).toNat * 13)).off + 11, none⟩ = some (.bool ((ak l1 aH).f4.f3)) ∧ w'.cell? ⟨(bW.add ((aH).toNat * 13)).block, (bW.add ((aH).toNat * 13)).off + 12, none⟩ = some (.bool ((ak l1 aH).f4.f4))) (ds := []) #[false, false, false, false, false, false, false, false, false, false, false] (by kernel_rfl) rfl rfl ⟨((HB.out.cell (World.block_lt_of_cell? w _ u6)).trans u6), ((HB.out.cell (World.block_lt_of_cell? w _ uZ)).trans uZ), ((HB.out.cell (World.block_lt_of_cell? w _ uY)).trans uY), ((HB.out.cell (World.block_lt_of_cell? w _ uX)).trans uX), ((HB.out.cell (World.block_lt_of_cell? w _ uW)).trans uW), ((HB.out.cell (World.block_lt_of_cell? w _ uV)).trans uV), ((HB.out.cell (World.block_lt_of_cell? w _ uU)).trans uU), ((HB.out.cell (World.block_lt_of_cell? w _ uT)).trans uT), ((HB.out.cell (World.block_lt_of_cell? w _ uS)).trans uS), ((HB.out.cell (World.block_lt_of_cell? w _ uR)).trans uR), ((HB.out.cell (World.block_lt_of_cell? w _ uQ)).trans uQ), ((HB.out.cell (World.block_lt_of_cell? w _ uP)).trans uP), ((HB.out.cell (World.block_lt_of_cell? w _ uO)).trans uO), ((HB.out.cell (World.block_lt_of_cell? w _ vG)).trans vG), ((HB.out.cell (World.block_lt_of_cell? w _ vF)).trans vF), ((HB.out.cell (World.block_lt_of_cell? w _ vE)).trans vE), ((HB.out.cell (World.block_lt_of_cell? w _ vD)).trans vD), ((HB.out.cell (World.block_lt_of_cell? w _ vC)).trans vC), ((HB.out.cell (World.block_lt_of_cell? w _ vB)).trans vB), ((HB.out.cell (World.block_lt_of_cell? w _ vw)).trans vw), ((HB.out.cell (World.block_lt_of_cell? w _ vv)).trans vv), ((HB.out.cell (World.block_lt_of_cell? w _ vo)).trans vo), ((HB.out.cell (World.block_lt_of_cell? w _ vk)).trans vk), ((HB.out.cell (World.block_lt_of_cell? w _ vg)).trans vg), ((HB.out.cell (World.block_lt_of_cell? w _ u_)).trans u_), ((HB.out.cell (World.block_lt_of_cell? w _ u7)).trans u7)⟩ (fun hHeld => ?_); refine SE gZ.SB gZ.SC (fun jf El => ?_)
      generalize wr.drew = w9 at HB qz qA qJ qK qL qB qC qD qE qF qG qH qI qM qN qY qZ q9 qO qP qQ qR qU qV qW qX hHeld ⊢
      refine kr (i := 0) (N := some 13) (v := ?_) (a' := ?_) #[true, false, false, false, false, false, false, false, false, false, false] rfl rfl (mo jf.out (by kernel_rfl)) (fun _ _ _ h => h) (Or.inl ⟨by rfl, ?_⟩) ?_ ?_
      rotate_left
      ·intro w'
       go_simp
       with_reducible rfl
      rotate_left
      ·simp only [Act.put, List.setIfInBounds_toArray, List.set_cons_zero, List.set_cons_succ, dS, eZ]
       rfl
      refine kr (i := 1) (N := some 14) (v := ?_) (a' := ?_) #[true, true, false, false, false, false, false, false, false, false, false] rfl rfl (mo jf.out (by kernel_rfl)) (fun _ _ _ h => h) (Or.inl ⟨by rfl, ?_⟩) ?_ ?_
      rotate_left
      ·intro w'
       go_simp
       with_reducible rfl
      rotate_left
      ·simp only [Act.put, List.setIfInBounds_toArray, List.set_cons_zero, List.set_cons_succ, dS, eZ]
       rfl
      refine kr (i := 2) (N := some 15) (v := ?_) (a' := ?_) #[true, true, true, false, false, false, false, false, false, false, false] rfl rfl (mo jf.out (by kernel_rfl)) (fun _ _ _ h => h) (Or.inl ⟨by rfl, ?_⟩) ?_ ?_
      rotate_left
      ·intro w'
       go_simp
       with_reducible rfl
      rotate_left
      ·simp only [Act.put, List.setIfInBounds_toArray, List.set_cons_zero, List.set_cons_succ, dS, eZ]
       rfl
      refine kr (i := 3) (N := some 16) (v := ?_) (a' := ?_) #[true, true, true, true, false, false, false, false, false, false, false] rfl rfl (mo jf.out (by kernel_rfl)) (fun _ _ _ h => h) (Or.inl ⟨by rfl, ?_⟩) ?_ ?_
      rotate_left
      ·intro w'
       go_simp
       with_reducible rfl
      rotate_left
      ·simp only [Act.put, List.setIfInBounds_toArray, List.set_cons_zero, List.set_cons_succ, dS, eZ]
       rfl
      refine kr (i := 5) (N := some 18) (v := ?_) (a' := ?_) #[true, true, true, true, false, true, false, false, false, false, false] rfl rfl (mo jf.out (by kernel_rfl)) (fun _ _ _ h => h) (Or.inl ⟨by rfl, ?_⟩) ?_ ?_
      rotate_left
      ·intro w'
       go_simp
       with_reducible rfl
      rotate_left
      ·simp only [Act.put, List.setIfInBounds_toArray, List.set_cons_zero, List.set_cons_succ, dS, eZ]
       rfl
      refine kr (i := 6) (N := some 19) (v := ?_) (a' := ?_) #[true, true, true, true, false, true, true, false, false, false, false] rfl rfl (mo jf.out (by kernel_rfl)) (fun _ _ _ h => h) (Or.inl ⟨by rfl, ?_⟩) ?_ ?_
      rotate_left
      ·intro w'
       go_simp
       with_reducible rfl
      rotate_left
      ·simp only [Act.put, List.setIfInBounds_toArray, List.set_cons_zero, List.set_cons_succ, dS, eZ]
       rfl
      refine kr (i := 7) (N := some 20) (v := ?_) (a' := ?_) #[true, true, true, true, false, true, true, true, false, false, false] rfl rfl (mo jf.out (by kernel_rfl)) (fun _ _ _ h => h) (Or.inl ⟨by rfl, ?_⟩) ?_ ?_
      rotate_left
      ·intro w'
       go_simp
       with_reducible rfl
      rotate_left
      ·simp only [Act.put, List.setIfInBounds_toArray, List.set_cons_zero, List.set_cons_succ, dS, eZ]
       rfl
      refine w_ (i := 4) (N := some 17) (v := ?_) (a' := ?_) #[true, true, true, true, true, true, true, true, false, false, false] rfl rfl (Hl jf.out El.out (by kernel_rfl)) (fun _ _ _ h => h) (Or.inl ⟨by rfl, ?_⟩) hHeld ?_ ?_
      rotate_left
      ·rintro w' ⟨s0, s1, s2, s3, s4, s5, s6, s7, s8, s9, s10, s11, s12, s13, zF, s15, s16, zG, MH, MI, s20, MJ, MK, ML, s24, MN⟩
       go_simp
       with_reducible rfl
      rotate_left
      ·simp only [Act.put, List.setIfInBounds_toArray, List.set_cons_zero, List.set_cons_succ, dS, eZ]
       rfl
      refine w_ (i := 8) (N := some 21) (v := ?_) (a' := ?_) #[true, true, true, true, true, true, true, true, true, false, false] rfl rfl (Hl jf.out El.out (by kernel_rfl)) (fun _ _ _ h => h) (Or.inl ⟨by rfl, ?_⟩) hHeld ?_ ?_
      rotate_left
      ·rintro w' ⟨s0, s1, s2, s3, s4, s5, s6, s7, s8, s9, s10, s11, s12, s13, zF, s15, s16, zG, MH, MI, s20, MJ, MK, ML, s24, MN⟩
       go_simp
       with_reducible rfl
      rotate_left
      ·simp only [Act.put, List.setIfInBounds_toArray, List.set_cons_zero, List.set_cons_succ, dS, eZ]
       rfl
      refine Ch (i := 9) (N := some 22) #[true, true, true, true, true, true, true, true, true, true, false] rfl rfl (SF jf.out (by kernel_rfl)) (by decide) (fun K hK => ?_)
      refine Ci Tryz.func9 (by kernel_rfl) rfl #[.agg #[.int .i64 ((ak l1 aH).f0.f0), .int .i64 ((ak l1 aH).f0.f1), .string ((ak l1 aH).f0.f2), .bool ((ak l1 aH).f0.f3), .bool ((ak l1 aH).f0.f4)], .agg #[.int .i64 ((ak l1 aH).f0.f0), .int .i64 ((ak l1 aH).f0.f1), .string ((ak l1 aH).f0.f2), .bool ((ak l1 aH).f0.f3), .bool ((ak l1 aH).f0.f4), .int .i64 ((ak l1 aH).f1), .bool ((ak l1 aH).f2), .string ((ak l1 aH).f3), .int .i64 ((ak l1 aH).f4.f0), .int .i64 ((ak l1 aH).f4.f1), .string ((ak l1 aH).f4.f2), .bool ((ak l1 aH).f4.f3), .bool ((ak l1 aH).f4.f4)]] (by rfl) rfl rfl (by (try simp only [List.map_toArray, List.map_cons, List.map_nil]); first | done | rfl | (simp only [List.length_drop, List.length_take]; rfl)) ?_
      with_reducible refine (dI.calls k1 ((ak l1 aH).f0.f0) ((ak l1 aH).f0.f1) ((ak l1 aH).f0.f2) ((ak l1 aH).f0.f3) ((ak l1 aH).f0.f4) ((ak l1 aH).f0.f0) ((ak l1 aH).f0.f1) ((ak l1 aH).f0.f2) ((ak l1 aH).f0.f3) ((ak l1 aH).f0.f4) ((ak l1 aH).f1) ((ak l1 aH).f2) ((ak l1 aH).f3) ((ak l1 aH).f4.f0) ((ak l1 aH).f4.f1) ((ak l1 aH).f4.f2) ((ak l1 aH).f4.f3) ((ak l1 aH).f4.f4) t274 _ A5.out).mono ?_
      rintro e o7 ⟨rfl, hb⟩
      refine ⟨_, rfl, ?_⟩
      have ay := am (bP (by repeat (first | (with_reducible first | exact HB.out | apply bA | apply pN | apply au) | exact HB.out)) hb)
      clear HB
      have HB := ay
      clear ay
      (try clear hb)
      (try clear hb2)
      (try clear hk)
      (try clear hi)
      refine hK.out _ _ ⟨((HB.out.cell (World.block_lt_of_cell? w _ u6)).trans u6), ((HB.out.cell (World.block_lt_of_cell? w _ uZ)).trans uZ), ((HB.out.cell (World.block_lt_of_cell? w _ uY)).trans uY), ((HB.out.cell (World.block_lt_of_cell? w _ uX)).trans uX), ((HB.out.cell (World.block_lt_of_cell? w _ uW)).trans uW), ((HB.out.cell (World.block_lt_of_cell? w _ uV)).trans uV), ((HB.out.cell (World.block_lt_of_cell? w _ uU)).trans uU), ((HB.out.cell (World.block_lt_of_cell? w _ uT)).trans uT), ((HB.out.cell (World.block_lt_of_cell? w _ uS)).trans uS), ((HB.out.cell (World.block_lt_of_cell? w _ uR)).trans uR), ((HB.out.cell (World.block_lt_of_cell? w _ uQ)).trans uQ), ((HB.out.cell (World.block_lt_of_cell? w _ uP)).trans uP), ((HB.out.cell (World.block_lt_of_cell? w _ uO)).trans uO), ((HB.out.cell (World.block_lt_of_cell? w _ vG)).trans vG), ((HB.out.cell (World.block_lt_of_cell? w _ vF)).trans vF), ((HB.out.cell (World.block_lt_of_cell? w _ vE)).trans vE), ((HB.out.cell (World.block_lt_of_cell? w _ vD)).trans vD), ((HB.out.cell (World.block_lt_of_cell? w _ vC)).trans vC), ((HB.out.cell (World.block_lt_of_cell? w _ vB)).trans vB), ((HB.out.cell (World.block_lt_of_cell? w _ vw)).trans vw), ((HB.out.cell (World.block_lt_of_cell? w _ vv)).trans vv), ((HB.out.cell (World.block_lt_of_cell? w _ vo)).trans vo), ((HB.out.cell (World.block_lt_of_cell? w _ vk)).trans vk), ((HB.out.cell (World.block_lt_of_cell? w _ vg)).trans vg), ((HB.out.cell (World.block_lt_of_cell? w _ u_)).trans u_), ((HB.out.cell (World.block_lt_of_cell? w _ u7)).trans u7)⟩ (fun hHeld => ?_)
      clear hK K
      refine Cj (a' := ?_) ?_ ?_
      rotate_left
      ·show Act.put _ (some 22) _ = _
       simp only [Act.put, List.setIfInBounds_toArray, List.set_cons_zero, List.set_cons_succ, dS, eZ]
       rfl
      refine kr (i := 10) (N := some 23) (v := ?_) (a' := ?_) #[true, true, true, true, true, true, true, true, true, true, true] rfl rfl (mo jf.out (by kernel_rfl)) (fun _ _ _ h => h) (Or.inl ⟨by rfl, ?_⟩) ?_ ?_
      rotate_left
      ·intro w'
       go_simp
       with_reducible rfl
      rotate_left
      ·simp only [Act.put, List.setIfInBounds_toArray, List.set_cons_zero, List.set_cons_succ, dS, eZ]
       rfl
      refine G_ (SG jf.out (by kernel_rfl)) ?_
      try go_wp2
      go_ret2
      exact ⟨by first | rfl | (simp [aQ, aR] <;> rfl) | (simp [*, aQ, aR] <;> rfl), by repeat (first | (with_reducible first | exact HB.out | apply bA | apply pN | apply au) | exact HB.out)⟩
    ·rw [if_neg c4] at H
     exact absurd H (by simp)
   ·rw [if_neg c3] at H
    have gH : decide (aH < (l1.length : Int)) = false := decide_eq_false c3
    clear c3
    replace H := Option.bind_eq_some_iff.mp H
    obtain ⟨t275, xA, H⟩ := H
    replace H : (some (t275, 0)) = some (r1, r2) := H
    have zM := am xA
    clear xA
    simp only [Option.some.injEq, Prod.mk.injEq] at H
    obtain ⟨rfl, rfl⟩ := H
    go_wp2_with (first | ((with_reducible refine bY (f := 10) rfl ?_); refine b_ (some 26) rfl rfl Tryz.func10 (by kernel_rfl) rfl #[.string a0, .slice A1 l1.length c1] rfl (by (try simp only [List.map_toArray, List.map_cons, List.map_nil]); first | done | rfl | (simp only [List.length_drop, List.length_take]; rfl)) ?_; (with_reducible refine (kI.calls k1 a0 _ _ l1 t275 _ ?dB ?jV zM.out).mono ?_); (case dB => repeat (first | exact (Kd.Em HR1.out HB.out) | (with_reducible refine Kd.vH ?_ _) | (with_reducible refine Kd.vI ?_ _) | (with_reducible refine Kd.vJ ?_))); (case jV => exact o9.out); rintro e uE ⟨rfl, hb⟩; refine ⟨_, rfl, ?_⟩; have ay := am (bP (by repeat (first | (with_reducible first | exact HB.out | apply bA | apply pN | apply au) | exact HB.out)) hb); clear HB; have HB := ay; clear ay; (try clear hb); (try clear hb2); (try clear hk); (try clear hi)))
    go_ret2
    exact ⟨by first | rfl | (simp [aQ, aR] <;> rfl) | (simp [*, aQ, aR] <;> rfl), by repeat (first | (with_reducible first | exact HB.out | apply bA | apply pN | apply au) | exact HB.out)⟩
noncomputable def zN.f : Option Bool := some true
theorem zN.calls (r : Bool) (w : World) (HT0 : Go.Proofs.fM.jv w) (h : zN.f = some r) :
 Calls Tryz.prog 6 #[] w fun e w' => e = .returned (.bool r) ∧ Below w.heap.size w w' := by
 obtain rfl := Option.some.inj h
 exact Go.Proofs.fM.YK w HT0
noncomputable def BP.f (k : Nat) (a0 : ByteArray) (l1 : List (eP)) : Option (Bool) := (j4.f k a0 l1).bind fun En => ((gZ.f k a0 l1).bind fun xB => (if En.1.toList = xB.1.toList then (if En.2 = xB.2 then ((zN.f).bind fun t280 => (some t280)) else (some false)) else (some false)))
theorem BP.calls (k : Nat) (a0 : ByteArray) (A1 : Option Addr) (c1 : Nat) (l1 : List (eP)) (r : Bool) (w : World) (hr1 : Kd.C uw w A1 l1.length l1) (hc1 : l1.length ≤ c1) (HT0 : Go.Proofs.fM.jv w) (h : BP.f k a0 l1 = some r) :
 Calls Tryz.prog 3 #[.string a0, .slice A1 l1.length c1] w fun e w' => e = .returned (.bool r) ∧ Below w.heap.size w w' := by
 have HR1 := am hr1
 have o9 := am hc1
 clear hr1 hc1
 have HB := am (Below.refl w.heap.size w)
 have HT := am HT0
 clear HT0
 have H : ((j4.f k a0 l1).bind fun En => ((gZ.f k a0 l1).bind fun xB => (if En.1.toList = xB.1.toList then (if En.2 = xB.2 then ((zN.f).bind fun t280 => (some t280)) else (some false)) else (some false)))) = some r := h
 clear h
 replace H := Option.bind_eq_some_iff.mp H
 obtain ⟨⟨t276, t277⟩, fH, H⟩ := H
 replace H : ((gZ.f k a0 l1).bind fun xB => (if t276.toList = xB.1.toList then (if t277 = xB.2 then ((zN.f).bind fun t280 => (some t280)) else (some false)) else (some false))) = some r := H
 have A3 := am fH
 clear fH
 replace H := Option.bind_eq_some_iff.mp H
 obtain ⟨⟨t278, t279⟩, kX, H⟩ := H
 replace H : (if t276.toList = t278.toList then (if t277 = t279 then ((zN.f).bind fun t280 => (some t280)) else (some false)) else (some false)) = some r := H
 have A4 := am kX
 clear kX
 by_cases c5 : t276.toList = t278.toList
 ·rw [if_pos c5] at H
  have g_ : (t276.toList == t278.toList) = true := beq_iff_eq.mpr c5
  have kW : (t276.toList != t278.toList) = false := bne_eq_false_iff_eq.mpr c5
  clear c5
  by_cases c6 : t277 = t279
  ·rw [if_pos c6] at H
   have gT : (t277 == t279) = true := beq_iff_eq.mpr c6
   have mP : (t277 != t279) = false := bne_eq_false_iff_eq.mpr c6
   clear c6
   replace H := Option.bind_eq_some_iff.mp H
   obtain ⟨t280, wS, H⟩ := H
   replace H : (some t280) = some r := H
   have A7 := am wS
   clear wS
   obtain rfl := Option.some.inj H
   go_enter Tryz.func3, Tryz.ntmps3
   go_wp2_with (first | ((with_reducible refine bY (f := 4) rfl ?_); refine b_ (some 12) rfl rfl Tryz.func4 (by kernel_rfl) rfl #[.string a0, .slice A1 l1.length c1] rfl (by (try simp only [List.map_toArray, List.map_cons, List.map_nil]); first | done | rfl | (simp only [List.length_drop, List.length_take]; rfl)) ?_; (with_reducible refine (j4.calls k a0 _ _ l1 t276 t277 _ ?dB ?jV ?zO A3.out).mono ?_); (case dB => repeat (first | exact HR1.out | (with_reducible refine Kd.vH ?_ _) | (with_reducible refine Kd.vI ?_ _) | (with_reducible refine Kd.vJ ?_))); (case jV => exact o9.out); (case zO => exact HT.out.below (by repeat (first | (with_reducible first | exact HB.out | apply bA | apply pN | apply au) | exact HB.out))); rintro e w8 ⟨rfl, hb⟩; refine ⟨_, rfl, ?_⟩; have ay := am (bP (by repeat (first | (with_reducible first | exact HB.out | apply bA | apply pN | apply au) | exact HB.out)) hb); clear HB; have HB := ay; clear ay; (try clear hb); (try clear hb2); (try clear hk); (try clear hi)) | ((with_reducible refine bY (f := 5) rfl ?_); refine b_ (some 18) rfl rfl Tryz.func5 (by kernel_rfl) rfl #[.string a0, .slice A1 l1.length c1] rfl (by (try simp only [List.map_toArray, List.map_cons, List.map_nil]); first | done | rfl | (simp only [List.length_drop, List.length_take]; rfl)) ?_; (with_reducible refine (gZ.calls k a0 _ _ l1 t278 t279 _ ?dB ?jV A4.out).mono ?_); (case dB => repeat (first | exact (Kd.Em HR1.out HB.out) | (with_reducible refine Kd.vH ?_ _) | (with_reducible refine Kd.vI ?_ _) | (with_reducible refine Kd.vJ ?_))); (case jV => exact o9.out); rintro e w9 ⟨rfl, hb⟩; refine ⟨_, rfl, ?_⟩; have ay := am (bP (by repeat (first | (with_reducible first | exact HB.out | apply bA | apply pN | apply au) | exact HB.out)) hb); clear HB; have HB := ay; clear ay; (try clear hb); (try clear hb2); (try clear hk); (try clear hi)) | (go_at_call 6; (with_reducible refine (zN.calls  t280 _ ?dB A7.out).mono ?_); (case dB => exact HT.out.below (by repeat (first | (with_reducible first | exact HB.out | apply bA | apply pN | apply au) | exact HB.out))); rintro e o7 ⟨rfl, hb⟩; have ay := am (bP (by repeat (first | (with_reducible first | exact HB.out | apply bA | apply pN | apply au) | exact HB.out)) hb); clear HB; have HB := ay; clear ay; (try clear hb); (try clear hb2); (try clear hk); (try clear hi)))
   go_ret
   exact ⟨by first | rfl | (simp [aQ, aR] <;> rfl) | (simp [*, aQ, aR] <;> rfl), by repeat (first | (with_reducible first | exact HB.out | apply bA | apply pN | apply au) | exact HB.out)⟩
  ·rw [if_neg c6] at H
   have gT : (t277 == t279) = false := beq_eq_false_iff_ne.mpr c6
   have mP : (t277 != t279) = true := bne_iff_ne.mpr c6
   obtain rfl := Option.some.inj H
   go_enter Tryz.func3, Tryz.ntmps3
   go_wp2_with (first | ((with_reducible refine bY (f := 4) rfl ?_); refine b_ (some 12) rfl rfl Tryz.func4 (by kernel_rfl) rfl #[.string a0, .slice A1 l1.length c1] rfl (by (try simp only [List.map_toArray, List.map_cons, List.map_nil]); first | done | rfl | (simp only [List.length_drop, List.length_take]; rfl)) ?_; (with_reducible refine (j4.calls k a0 _ _ l1 t276 t277 _ ?dB ?jV ?zO A3.out).mono ?_); (case dB => repeat (first | exact HR1.out | (with_reducible refine Kd.vH ?_ _) | (with_reducible refine Kd.vI ?_ _) | (with_reducible refine Kd.vJ ?_))); (case jV => exact o9.out); (case zO => exact HT.out.below (by repeat (first | (with_reducible first | exact HB.out | apply bA | apply pN | apply au) | exact HB.out))); rintro e sP ⟨rfl, hb⟩; refine ⟨_, rfl, ?_⟩; have ay := am (bP (by repeat (first | (with_reducible first | exact HB.out | apply bA | apply pN | apply au) | exact HB.out)) hb); clear HB; have HB := ay; clear ay; (try clear hb); (try clear hb2); (try clear hk); (try clear hi)) | ((with_reducible refine bY (f := 5) rfl ?_); refine b_ (some 18) rfl rfl Tryz.func5 (by kernel_rfl) rfl #[.string a0, .slice A1 l1.length c1] rfl (by (try simp only [List.map_toArray, List.map_cons, List.map_nil]); first | done | rfl | (simp only [List.length_drop, List.length_take]; rfl)) ?_; (with_reducible refine (gZ.calls k a0 _ _ l1 t278 t279 _ ?dB ?jV A4.out).mono ?_); (case dB => repeat (first | exact (Kd.Em HR1.out HB.out) | (with_reducible refine Kd.vH ?_ _) | (with_reducible refine Kd.vI ?_ _) | (with_reducible refine Kd.vJ ?_))); (case jV => exact o9.out); rintro e uE ⟨rfl, hb⟩; refine ⟨_, rfl, ?_⟩; have ay := am (bP (by repeat (first | (with_reducible first | exact HB.out | apply bA | apply pN | apply au) | exact HB.out)) hb); clear HB; have HB := ay; clear ay; (try clear hb); (try clear hb2); (try clear hk); (try clear hi)))
   go_ret
   exact ⟨by first | rfl | (simp [aQ, aR] <;> rfl) | (simp [*, aQ, aR] <;> rfl), by repeat (first | (with_reducible first | exact HB.out | apply bA | apply pN | apply au) | exact HB.out)⟩
 ·rw [if_neg c5] at H
  have g_ : (t276.toList == t278.toList) = false := beq_eq_false_iff_ne.mpr c5
  have kW : (t276.toList != t278.toList) = true := bne_iff_ne.mpr c5
  obtain rfl := Option.some.inj H
  go_enter Tryz.func3, Tryz.ntmps3
  go_wp2_with (first | ((with_reducible refine bY (f := 4) rfl ?_); refine b_ (some 12) rfl rfl Tryz.func4 (by kernel_rfl) rfl #[.string a0, .slice A1 l1.length c1] rfl (by (try simp only [List.map_toArray, List.map_cons, List.map_nil]); first | done | rfl | (simp only [List.length_drop, List.length_take]; rfl)) ?_; (with_reducible refine (j4.calls k a0 _ _ l1 t276 t277 _ ?dB ?jV ?zO A3.out).mono ?_); (case dB => repeat (first | exact HR1.out | (with_reducible refine Kd.vH ?_ _) | (with_reducible refine Kd.vI ?_ _) | (with_reducible refine Kd.vJ ?_))); (case jV => exact o9.out); (case zO => exact HT.out.below (by repeat (first | (with_reducible first | exact HB.out | apply bA | apply pN | apply au) | exact HB.out))); rintro e Eo ⟨rfl, hb⟩; refine ⟨_, rfl, ?_⟩; have ay := am (bP (by repeat (first | (with_reducible first | exact HB.out | apply bA | apply pN | apply au) | exact HB.out)) hb); clear HB; have HB := ay; clear ay; (try clear hb); (try clear hb2); (try clear hk); (try clear hi)) | ((with_reducible refine bY (f := 5) rfl ?_); refine b_ (some 18) rfl rfl Tryz.func5 (by kernel_rfl) rfl #[.string a0, .slice A1 l1.length c1] rfl (by (try simp only [List.map_toArray, List.map_cons, List.map_nil]); first | done | rfl | (simp only [List.length_drop, List.length_take]; rfl)) ?_; (with_reducible refine (gZ.calls k a0 _ _ l1 t278 t279 _ ?dB ?jV A4.out).mono ?_); (case dB => repeat (first | exact (Kd.Em HR1.out HB.out) | (with_reducible refine Kd.vH ?_ _) | (with_reducible refine Kd.vI ?_ _) | (with_reducible refine Kd.vJ ?_))); (case jV => exact o9.out); rintro e y9 ⟨rfl, hb⟩; refine ⟨_, rfl, ?_⟩; have ay := am (bP (by repeat (first | (with_reducible first | exact HB.out | apply bA | apply pN | apply au) | exact HB.out)) hb); clear HB; have HB := ay; clear ay; (try clear hb); (try clear hb2); (try clear hk); (try clear hi)))
  go_ret
  exact ⟨by first | rfl | (simp [aQ, aR] <;> rfl) | (simp [*, aQ, aR] <;> rfl), by repeat (first | (with_reducible first | exact HB.out | apply bA | apply pN | apply au) | exact HB.out)⟩
end Go.Proofs.YtgliaoanlhbepaaGreatDoor.Q
