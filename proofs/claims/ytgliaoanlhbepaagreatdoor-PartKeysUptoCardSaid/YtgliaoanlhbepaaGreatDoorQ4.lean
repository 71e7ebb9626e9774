/- Walks, printed by a program of this session: what each function of the law computes. -/
import Derived.Test.YtgliaoanlhbepaaGreatDoorQ0
import Derived.Test.YtgliaoanlhbepaaGreatDoorQ2
namespace Go.Proofs.YtgliaoanlhbepaaGreatDoor.Q
open Go.RowKit Go.Proofs.bT.eG Go.Proofs.bT.iM Go.Proofs.bT.jd
open Go.Proofs.bT.eG renaming lF → pN, lZ → au, l6 → bA, mZ → bS, m_ → bZ, ng → bP, ni → kN, nk → kD, nu → kA, ny → fz, nA → kB, lH → kL
attribute [local go_sem] nC nD nE nG nH nI nJ nK
set_option maxHeartbeats 8000000
set_option maxRecDepth 100000
set_option linter.unusedVariables false
set_option linter.unusedSimpArgs false
noncomputable def uq.f (ah : Int) (av : Int) (aG : ByteArray) (aJ : Bool) (aI : Bool) : Option (Bool) := if aJ = true then (some false) else (if aI = true then (some false) else (if ah = 2 then (some true) else (if ah = 3 then (some true) else (some (ah == 5)))))
theorem uq.calls (ah : Int) (av : Int) (aG : ByteArray) (aJ : Bool) (aI : Bool) (r : Bool) (w : World) (h : uq.f ah av aG aJ aI = some r) :
 Calls Tryz.prog 34 #[.agg #[.int .i64 ah, .int .i64 av, .string aG, .bool aJ, .bool aI]] w fun e w' => e = .returned (.bool r) ∧ Below w.heap.size w w' := by
 have lI := Tryz.underlying29
 have HB := am (Below.refl w.heap.size w)
 have H : (if aJ = true then (some false) else (if aI = true then (some false) else (if ah = 2 then (some true) else (if ah = 3 then (some true) else (some (ah == 5)))))) = some r := h
 clear h
 by_cases c2 : aJ = true
 ·subst c2
  have H1 : (some false) = some r := by rw [if_pos rfl] at H; exact H
  clear H
  have H := H1
  clear H1
  obtain rfl := Option.some.inj H
  go_enter Tryz.func34, Tryz.ntmps34
  go_wp2_with (first | ((with_reducible refine cK (N := 1) rfl ?_); refine cO ?hg (N := 1) ?hd (cs := #[.int .i64 ah, .int .i64 av, .string aG, .bool true, .bool aI]) (t := 29) ?hr ?_; (case hd => rfl); (case hg => rfl); (case hr => first | (go_simp; done) | (go_simp; rfl)); intro nQ hg w3 aV hb; have ay := am (bP (by repeat (first | (with_reducible first | exact HB.out | apply bA | apply pN | apply au) | exact HB.out)) hb); have aA := am (aV); have aK := am ((by rw [hg]; exact (bZ (by repeat (first | (with_reducible first | exact HB.out | apply bA | apply pN | apply au) | exact HB.out))) : w.heap.size ≤ nQ)); have aU := am ((by rw [hg]; exact (bZ (by repeat (first | (with_reducible first | exact HB.out | apply bA | apply pN | apply au) | exact HB.out))) : w.heap.size ≤ nQ)); clear HB; have HB := ay; have eF := aA; have HV := aK; have vM := aU; clear ay aA aK aU; clear hb aV hg; have := cz eF.out 0 rfl; have := cz eF.out 1 rfl; have := cz eF.out 2 rfl; have := cz eF.out 3 rfl; have := cz eF.out 4 rfl; have := fz eF.out 0; have := fz eF.out 1; have := fz eF.out 2; have := fz eF.out 3; have := fz eF.out 4))
  go_ret
  exact ⟨by first | rfl | (simp [aQ, aR] <;> rfl) | (simp [*, aQ, aR] <;> rfl), by repeat (first | (with_reducible first | exact HB.out | apply bA | apply pN | apply au | refine bS ?_ vM.out) | exact HB.out)⟩
 ·replace c2 := Bool.eq_false_iff.mpr c2
  subst c2
  have H1 : (if aI = true then (some false) else (if ah = 2 then (some true) else (if ah = 3 then (some true) else (some (ah == 5))))) = some r := by rw [if_neg (show ¬ (false = true) by decide)] at H; exact H
  clear H
  have H := H1
  clear H1
  by_cases c5 : aI = true
  ·subst c5
   have H1 : (some false) = some r := by rw [if_pos rfl] at H; exact H
   clear H
   have H := H1
   clear H1
   obtain rfl := Option.some.inj H
   go_enter Tryz.func34, Tryz.ntmps34
   go_wp2_with (first | ((with_reducible refine cK (N := 1) rfl ?_); refine cO ?hg (N := 1) ?hd (cs := #[.int .i64 ah, .int .i64 av, .string aG, .bool false, .bool true]) (t := 29) ?hr ?_; (case hd => rfl); (case hg => rfl); (case hr => first | (go_simp; done) | (go_simp; rfl)); intro nQ hg w6 aV hb; have ay := am (bP (by repeat (first | (with_reducible first | exact HB.out | apply bA | apply pN | apply au) | exact HB.out)) hb); have aA := am (aV); have aK := am ((by rw [hg]; exact (bZ (by repeat (first | (with_reducible first | exact HB.out | apply bA | apply pN | apply au) | exact HB.out))) : w.heap.size ≤ nQ)); have aU := am ((by rw [hg]; exact (bZ (by repeat (first | (with_reducible first | exact HB.out | apply bA | apply pN | apply au) | exact HB.out))) : w.heap.size ≤ nQ)); clear HB; have HB := ay; have eF := aA; have HV := aK; have vM := aU; clear ay aA aK aU; clear hb aV hg; have := cz eF.out 0 rfl; have := cz eF.out 1 rfl; have := cz eF.out 2 rfl; have := cz eF.out 3 rfl; have := cz eF.out 4 rfl; have := fz eF.out 0; have := fz eF.out 1; have := fz eF.out 2; have := fz eF.out 3; have := fz eF.out 4))
   go_ret
   exact ⟨by first | rfl | (simp [aQ, aR] <;> rfl) | (simp [*, aQ, aR] <;> rfl), by repeat (first | (with_reducible first | exact HB.out | apply bA | apply pN | apply au | refine bS ?_ vM.out) | exact HB.out)⟩
  ·replace c5 := Bool.eq_false_iff.mpr c5
   subst c5
   have H1 : (if ah = 2 then (some true) else (if ah = 3 then (some true) else (some (ah == 5)))) = some r := by rw [if_neg (show ¬ (false = true) by decide)] at H; exact H
   clear H
   have H := H1
   clear H1
   by_cases c8 : ah = 2
   ·rw [if_pos c8] at H
    have l8 : (ah == 2) = true := beq_iff_eq.mpr c8
    have l9 : (ah != 2) = false := bne_eq_false_iff_eq.mpr c8
    clear c8
    obtain rfl := Option.some.inj H
    go_enter Tryz.func34, Tryz.ntmps34
    go_wp2_with (first | ((with_reducible refine cK (N := 1) rfl ?_); refine cO ?hg (N := 1) ?hd (cs := #[.int .i64 ah, .int .i64 av, .string aG, .bool false, .bool false]) (t := 29) ?hr ?_; (case hd => rfl); (case hg => rfl); (case hr => first | (go_simp; done) | (go_simp; rfl)); intro nQ hg w9 aV hb; have ay := am (bP (by repeat (first | (with_reducible first | exact HB.out | apply bA | apply pN | apply au) | exact HB.out)) hb); have aA := am (aV); have aK := am ((by rw [hg]; exact (bZ (by repeat (first | (with_reducible first | exact HB.out | apply bA | apply pN | apply au) | exact HB.out))) : w.heap.size ≤ nQ)); have aU := am ((by rw [hg]; exact (bZ (by repeat (first | (with_reducible first | exact HB.out | apply bA | apply pN | apply au) | exact HB.out))) : w.heap.size ≤ nQ)); clear HB; have HB := ay; have eF := aA; have HV := aK; have vM := aU; clear ay aA aK aU; clear hb aV hg; have := cz eF.out 0 rfl; have := cz eF.out 1 rfl; have := cz eF.out 2 rfl; have := cz eF.out 3 rfl; have := cz eF.out 4 rfl; have := fz eF.out 0; have := fz eF.out 1; have := fz eF.out 2; have := fz eF.out 3; have := fz eF.out 4))
    go_ret
    exact ⟨by first | rfl | (simp [aQ, aR] <;> rfl) | (simp [*, aQ, aR] <;> rfl), by repeat (first | (with_reducible first | exact HB.out | apply bA | apply pN | apply au | refine bS ?_ vM.out) | exact HB.out)⟩
   ·rw [if_neg c8] at H
    have l8 : (ah == 2) = false := beq_eq_false_iff_ne.mpr c8
    have l9 : (ah != 2) = true := bne_iff_ne.mpr c8
    by_cases c11 : ah = 3
    ·rw [if_pos c11] at H
     have og : (ah == 3) = true := beq_iff_eq.mpr c11
     have oZ : (ah != 3) = false := bne_eq_false_iff_eq.mpr c11
     clear c11
     obtain rfl := Option.some.inj H
     go_enter Tryz.func34, Tryz.ntmps34
     go_wp2_with (first | ((with_reducible refine cK (N := 1) rfl ?_); refine cO ?hg (N := 1) ?hd (cs := #[.int .i64 ah, .int .i64 av, .string aG, .bool false, .bool false]) (t := 29) ?hr ?_; (case hd => rfl); (case hg => rfl); (case hr => first | (go_simp; done) | (go_simp; rfl)); intro nQ hg uE aV hb; have ay := am (bP (by repeat (first | (with_reducible first | exact HB.out | apply bA | apply pN | apply au) | exact HB.out)) hb); have aA := am (aV); have aK := am ((by rw [hg]; exact (bZ (by repeat (first | (with_reducible first | exact HB.out | apply bA | apply pN | apply au) | exact HB.out))) : w.heap.size ≤ nQ)); have aU := am ((by rw [hg]; exact (bZ (by repeat (first | (with_reducible first | exact HB.out | apply bA | apply pN | apply au) | exact HB.out))) : w.heap.size ≤ nQ)); clear HB; have HB := ay; have eF := aA; have HV := aK; have vM := aU; clear ay aA aK aU; clear hb aV hg; have := cz eF.out 0 rfl; have := cz eF.out 1 rfl; have := cz eF.out 2 rfl; have := cz eF.out 3 rfl; have := cz eF.out 4 rfl; have := fz eF.out 0; have := fz eF.out 1; have := fz eF.out 2; have := fz eF.out 3; have := fz eF.out 4))
     go_ret
     exact ⟨by first | rfl | (simp [aQ, aR] <;> rfl) | (simp [*, aQ, aR] <;> rfl), by repeat (first | (with_reducible first | exact HB.out | apply bA | apply pN | apply au | refine bS ?_ vM.out) | exact HB.out)⟩
    ·rw [if_neg c11] at H
     have og : (ah == 3) = false := beq_eq_false_iff_ne.mpr c11
     have oZ : (ah != 3) = true := bne_iff_ne.mpr c11
     obtain rfl := Option.some.inj H
     go_enter Tryz.func34, Tryz.ntmps34
     go_wp2_with (first | ((with_reducible refine cK (N := 1) rfl ?_); refine cO ?hg (N := 1) ?hd (cs := #[.int .i64 ah, .int .i64 av, .string aG, .bool false, .bool false]) (t := 29) ?hr ?_; (case hd => rfl); (case hg => rfl); (case hr => first | (go_simp; done) | (go_simp; rfl)); intro nQ hg y9 aV hb; have ay := am (bP (by repeat (first | (with_reducible first | exact HB.out | apply bA | apply pN | apply au) | exact HB.out)) hb); have aA := am (aV); have aK := am ((by rw [hg]; exact (bZ (by repeat (first | (with_reducible first | exact HB.out | apply bA | apply pN | apply au) | exact HB.out))) : w.heap.size ≤ nQ)); have aU := am ((by rw [hg]; exact (bZ (by repeat (first | (with_reducible first | exact HB.out | apply bA | apply pN | apply au) | exact HB.out))) : w.heap.size ≤ nQ)); clear HB; have HB := ay; have eF := aA; have HV := aK; have vM := aU; clear ay aA aK aU; clear hb aV hg; have := cz eF.out 0 rfl; have := cz eF.out 1 rfl; have := cz eF.out 2 rfl; have := cz eF.out 3 rfl; have := cz eF.out 4 rfl; have := fz eF.out 0; have := fz eF.out 1; have := fz eF.out 2; have := fz eF.out 3; have := fz eF.out 4))
     go_ret
     exact ⟨by first | rfl | (simp [aQ, aR] <;> rfl) | (simp [*, aQ, aR] <;> rfl), by repeat (first | (with_reducible first | exact HB.out | apply bA | apply pN | apply au | refine bS ?_ vM.out) | exact HB.out)⟩
noncomputable def yR.f (ah : Bool) (av : Int) : Option (Int) := if ah = true then (if 0 ≤ (wrap64 (av - 1)) then (some (shl .i64 (-1) (wrap64 (av - 1)))) else (none)) else (some 0)
theorem yR.calls (ah : Bool) (av : Int) (r : Int) (w : World) (h : yR.f ah av = some r) :
 Calls Tryz.prog 135 #[.agg #[.bool ah, .int .i64 av]] w fun e w' => e = .returned (.int .i64 r) ∧ Below w.heap.size w w' := by
 have mg := Tryz.underlying48
 have HB := am (Below.refl w.heap.size w)
 have H : (if ah = true then (if 0 ≤ (wrap64 (av - 1)) then (some (shl .i64 (-1) (wrap64 (av - 1)))) else (none)) else (some 0)) = some r := h
 clear h
 by_cases c2 : ah = true
 ·subst c2
  have H1 : (if 0 ≤ (wrap64 (av - 1)) then (some (shl .i64 (-1) (wrap64 (av - 1)))) else (none)) = some r := by rw [if_pos rfl] at H; exact H
  clear H
  have H := H1
  clear H1
  obtain ⟨iK, vN⟩ : ∃ j_ : Int, (wrap64 (av - 1)) = j_ := ⟨_, rfl⟩
  replace H : (if 0 ≤ (iK) then (some (shl .i64 (-1) (iK))) else (none)) = some r := by first | (rw [vN] at H; exact H) | (simp only [vN] at H ⊢; exact H)
  have ad9 : (IntKind.i64.wrap (av - 1)) = iK := (dS _).trans vN
  by_cases c4 : 0 ≤ (iK)
  ·rw [if_pos c4] at H
   have fJ := eq_true c4
   have uM : decide (0 ≤ (iK)) = true := decide_eq_true c4
   clear c4
   obtain ⟨ou, rF⟩ : ∃ j_ : Int, (shl .i64 (-1) (iK)) = j_ := ⟨_, rfl⟩
   replace H : (some ou) = some r := by first | (rw [rF] at H; exact H) | (simp only [rF] at H ⊢; exact H)
   have HY : (IntKind.i64.wrap ((-1) * 2 ^ min (iK).toNat 64)) = ou := rF
   have HZ : (iK) ≤ 64 → (IntKind.i64.wrap ((-1) * 2 ^ (iK).toNat)) = ou := MW rF
   have MX : (wrap64 ((-1) * 2 ^ min (iK).toNat 64)) = ou := (dS _).symm.trans HY
   have ad_ : (iK) ≤ 64 → (wrap64 ((-1) * 2 ^ (iK).toNat)) = ou := fun h_ => (dS _).symm.trans (HZ h_)
   obtain rfl := Option.some.inj H
   go_enter Tryz.func135, Tryz.ntmps135
   go_wp2_with (first | ((with_reducible refine cK (N := 1) rfl ?_); refine cO ?hg (N := 1) ?hd (cs := #[.bool true, .int .i64 av]) (t := 48) ?hr ?_; (case hd => rfl); (case hg => rfl); (case hr => first | (go_simp; done) | (go_simp; rfl)); intro Ey hg w6 aV hb; have ay := am (bP (by repeat (first | (with_reducible first | exact HB.out | apply bA | apply pN | apply au) | exact HB.out)) hb); have aA := am (aV); have aK := am ((by rw [hg]; exact (bZ (by repeat (first | (with_reducible first | exact HB.out | apply bA | apply pN | apply au) | exact HB.out))) : w.heap.size ≤ Ey)); have aU := am ((by rw [hg]; exact (bZ (by repeat (first | (with_reducible first | exact HB.out | apply bA | apply pN | apply au) | exact HB.out))) : w.heap.size ≤ Ey)); clear HB; have HB := ay; have vO := aA; have aea := aK; have MZ := aU; clear ay aA aK aU; clear hb aV hg; have := cz vO.out 0 rfl; have := cz vO.out 1 rfl; have := fz vO.out 0; have := fz vO.out 1))
   go_ret
   exact ⟨by first | (have e_ := MX; simp at e_ ⊢; exact e_) | rfl | (simp [aQ, aR] <;> rfl) | (simp only [← vN, ← rF]; first | rfl | (simp [aQ, aR] <;> rfl)) | (simp [*, aQ, aR] <;> rfl), by repeat (first | (with_reducible first | exact HB.out | apply bA | apply pN | apply au | refine bS ?_ MZ.out) | exact HB.out)⟩
  ·rw [if_neg c4] at H
   exact absurd H (by simp)
 ·replace c2 := Bool.eq_false_iff.mpr c2
  subst c2
  have H1 : (some 0) = some r := by rw [if_neg (show ¬ (false = true) by decide)] at H; exact H
  clear H
  have H := H1
  clear H1
  obtain rfl := Option.some.inj H
  go_enter Tryz.func135, Tryz.ntmps135
  go_wp2_with (first | ((with_reducible refine cK (N := 1) rfl ?_); refine cO ?hg (N := 1) ?hd (cs := #[.bool false, .int .i64 av]) (t := 48) ?hr ?_; (case hd => rfl); (case hg => rfl); (case hr => first | (go_simp; done) | (go_simp; rfl)); intro Ey hg w8 aV hb; have ay := am (bP (by repeat (first | (with_reducible first | exact HB.out | apply bA | apply pN | apply au) | exact HB.out)) hb); have aA := am (aV); have aK := am ((by rw [hg]; exact (bZ (by repeat (first | (with_reducible first | exact HB.out | apply bA | apply pN | apply au) | exact HB.out))) : w.heap.size ≤ Ey)); have aU := am ((by rw [hg]; exact (bZ (by repeat (first | (with_reducible first | exact HB.out | apply bA | apply pN | apply au) | exact HB.out))) : w.heap.size ≤ Ey)); clear HB; have HB := ay; have vO := aA; have aea := aK; have MZ := aU; clear ay aA aK aU; clear hb aV hg; have := cz vO.out 0 rfl; have := cz vO.out 1 rfl; have := fz vO.out 0; have := fz vO.out 1))
  go_ret
  exact ⟨by first | rfl | (simp [aQ, aR] <;> rfl) | (simp [*, aQ, aR] <;> rfl), by repeat (first | (with_reducible first | exact HB.out | apply bA | apply pN | apply au | refine bS ?_ MZ.out) | exact HB.out)⟩
noncomputable def yS.f (ah : Bool) (av : Int) : Option (Int) := if ah = true then (if 0 ≤ (wrap64 (av - 1)) then (some (wrap64 ((shl .i64 1 (wrap64 (av - 1))) - 1))) else (none)) else (if 0 ≤ av then (some (wrap64 ((shl .i64 1 av) - 1))) else (none))
theorem yS.calls (ah : Bool) (av : Int) (r : Int) (w : World) (h : yS.f ah av = some r) :
 Calls Tryz.prog 136 #[.agg #[.bool ah, .int .i64 av]] w fun e w' => e = .returned (.int .i64 r) ∧ Below w.heap.size w w' := by
 have mg := Tryz.underlying48
 have HB := am (Below.refl w.heap.size w)
 have H : (if ah = true then (if 0 ≤ (wrap64 (av - 1)) then (some (wrap64 ((shl .i64 1 (wrap64 (av - 1))) - 1))) else (none)) else (if 0 ≤ av then (some (wrap64 ((shl .i64 1 av) - 1))) else (none))) = some r := h
 clear h
 by_cases c2 : ah = true
 ·subst c2
  have H1 : (if 0 ≤ (wrap64 (av - 1)) then (some (wrap64 ((shl .i64 1 (wrap64 (av - 1))) - 1))) else (none)) = some r := by rw [if_pos rfl] at H; exact H
  clear H
  have H := H1
  clear H1
  obtain ⟨iK, vN⟩ : ∃ j_ : Int, (wrap64 (av - 1)) = j_ := ⟨_, rfl⟩
  replace H : (if 0 ≤ (iK) then (some (wrap64 ((shl .i64 1 (iK)) - 1))) else (none)) = some r := by first | (rw [vN] at H; exact H) | (simp only [vN] at H ⊢; exact H)
  have ad9 : (IntKind.i64.wrap (av - 1)) = iK := (dS _).trans vN
  by_cases c4 : 0 ≤ (iK)
  ·rw [if_pos c4] at H
   have fJ := eq_true c4
   have uM : decide (0 ≤ (iK)) = true := decide_eq_true c4
   clear c4
   obtain ⟨ou, rF⟩ : ∃ j_ : Int, (shl .i64 1 (iK)) = j_ := ⟨_, rfl⟩
   replace H : (some (wrap64 ((ou) - 1))) = some r := by first | (rw [rF] at H; exact H) | (simp only [rF] at H ⊢; exact H)
   have HY : (IntKind.i64.wrap (1 * 2 ^ min (iK).toNat 64)) = ou := rF
   have HZ : (iK) ≤ 64 → (IntKind.i64.wrap (1 * 2 ^ (iK).toNat)) = ou := MW rF
   have arl : (IntKind.i64.wrap (2 ^ min (iK).toNat 64)) = ou := by have h_ := HY; rw [Int.one_mul] at h_; exact h_
   have arn : (iK) ≤ 64 → (IntKind.i64.wrap (2 ^ (iK).toNat)) = ou := fun M0 => by have h_ := HZ M0; rw [Int.one_mul] at h_; exact h_
   have MX : (wrap64 (1 * 2 ^ min (iK).toNat 64)) = ou := (dS _).symm.trans HY
   have ad_ : (iK) ≤ 64 → (wrap64 (1 * 2 ^ (iK).toNat)) = ou := fun h_ => (dS _).symm.trans (HZ h_)
   obtain rfl := Option.some.inj H
   go_enter Tryz.func136, Tryz.ntmps136
   go_wp2_with (first | ((with_reducible refine cK (N := 1) rfl ?_); refine cO ?hg (N := 1) ?hd (cs := #[.bool true, .int .i64 av]) (t := 48) ?hr ?_; (case hd => rfl); (case hg => rfl); (case hr => first | (go_simp; done) | (go_simp; rfl)); intro Ez hg w6 aV hb; have ay := am (bP (by repeat (first | (with_reducible first | exact HB.out | apply bA | apply pN | apply au) | exact HB.out)) hb); have aA := am (aV); have aK := am ((by rw [hg]; exact (bZ (by repeat (first | (with_reducible first | exact HB.out | apply bA | apply pN | apply au) | exact HB.out))) : w.heap.size ≤ Ez)); have aU := am ((by rw [hg]; exact (bZ (by repeat (first | (with_reducible first | exact HB.out | apply bA | apply pN | apply au) | exact HB.out))) : w.heap.size ≤ Ez)); clear HB; have HB := ay; have vP := aA; have aeb := aK; have M4 := aU; clear ay aA aK aU; clear hb aV hg; have := cz vP.out 0 rfl; have := cz vP.out 1 rfl; have := fz vP.out 0; have := fz vP.out 1))
   go_ret
   exact ⟨by first | (have e_ := MX; simp at e_ ⊢; exact e_) | rfl | (simp [aQ, aR] <;> rfl) | (simp only [← vN, ← rF]; first | rfl | (simp [aQ, aR] <;> rfl)) | (simp [*, aQ, aR] <;> rfl), by repeat (first | (with_reducible first | exact HB.out | apply bA | apply pN | apply au | refine bS ?_ M4.out) | exact HB.out)⟩
  ·rw [if_neg c4] at H
   exact absurd H (by simp)
 ·replace c2 := Bool.eq_false_iff.mpr c2
  subst c2
  have H1 : (if 0 ≤ av then (some (wrap64 ((shl .i64 1 av) - 1))) else (none)) = some r := by rw [if_neg (show ¬ (false = true) by decide)] at H; exact H
  clear H
  have H := H1
  clear H1
  by_cases c8 : 0 ≤ av
  ·rw [if_pos c8] at H
   have l8 := eq_true c8
   have l9 : decide (0 ≤ av) = true := decide_eq_true c8
   clear c8
   obtain ⟨z8, EA⟩ : ∃ j_ : Int, (shl .i64 1 av) = j_ := ⟨_, rfl⟩
   replace H : (some (wrap64 ((z8) - 1))) = some r := by first | (rw [EA] at H; exact H) | (simp only [EA] at H ⊢; exact H)
   have Tk : (IntKind.i64.wrap (1 * 2 ^ min av.toNat 64)) = z8 := EA
   have Tm : av ≤ 64 → (IntKind.i64.wrap (1 * 2 ^ av.toNat)) = z8 := MW EA
   have aro : (IntKind.i64.wrap (2 ^ min av.toNat 64)) = z8 := by have h_ := Tk; rw [Int.one_mul] at h_; exact h_
   have arp : av ≤ 64 → (IntKind.i64.wrap (2 ^ av.toNat)) = z8 := fun M0 => by have h_ := Tm M0; rw [Int.one_mul] at h_; exact h_
   have arq : (wrap64 (1 * 2 ^ min av.toNat 64)) = z8 := (dS _).symm.trans Tk
   have ars : av ≤ 64 → (wrap64 (1 * 2 ^ av.toNat)) = z8 := fun h_ => (dS _).symm.trans (Tm h_)
   obtain rfl := Option.some.inj H
   go_enter Tryz.func136, Tryz.ntmps136
   go_wp2_with (first | ((with_reducible refine cK (N := 1) rfl ?_); refine cO ?hg (N := 1) ?hd (cs := #[.bool false, .int .i64 av]) (t := 48) ?hr ?_; (case hd => rfl); (case hg => rfl); (case hr => first | (go_simp; done) | (go_simp; rfl)); intro Ez hg o7 aV hb; have ay := am (bP (by repeat (first | (with_reducible first | exact HB.out | apply bA | apply pN | apply au) | exact HB.out)) hb); have aA := am (aV); have aK := am ((by rw [hg]; exact (bZ (by repeat (first | (with_reducible first | exact HB.out | apply bA | apply pN | apply au) | exact HB.out))) : w.heap.size ≤ Ez)); have aU := am ((by rw [hg]; exact (bZ (by repeat (first | (with_reducible first | exact HB.out | apply bA | apply pN | apply au) | exact HB.out))) : w.heap.size ≤ Ez)); clear HB; have HB := ay; have vP := aA; have aeb := aK; have M4 := aU; clear ay aA aK aU; clear hb aV hg; have := cz vP.out 0 rfl; have := cz vP.out 1 rfl; have := fz vP.out 0; have := fz vP.out 1))
   go_ret
   exact ⟨by first | rfl | (simp [aQ, aR] <;> rfl) | (simp only [← EA]; first | rfl | (simp [aQ, aR] <;> rfl)) | (simp [*, aQ, aR] <;> rfl), by repeat (first | (with_reducible first | exact HB.out | apply bA | apply pN | apply au | refine bS ?_ M4.out) | exact HB.out)⟩
  ·rw [if_neg c8] at H
   exact absurd H (by simp)
noncomputable def yT.f (ah : Bool) (av : Int) (a1 : Int) : Option (Bool) := (yR.f ah av).bind fun t137 => (if a1 ≥ t137 then ((yS.f ah av).bind fun t138 => (some (decide (a1 ≤ t138)))) else (some false))
theorem yT.calls (ah : Bool) (av : Int) (a1 : Int) (r : Bool) (w : World) (h : yT.f ah av a1 = some r) :
 Calls Tryz.prog 67 #[.agg #[.bool ah, .int .i64 av], .int .i64 a1] w fun e w' => e = .returned (.bool r) ∧ Below w.heap.size w w' := by
 have mg := Tryz.underlying48
 have HB := am (Below.refl w.heap.size w)
 have H : ((yR.f ah av).bind fun t137 => (if a1 ≥ t137 then ((yS.f ah av).bind fun t138 => (some (decide (a1 ≤ t138)))) else (some false))) = some r := h
 clear h
 replace H := Option.bind_eq_some_iff.mp H
 obtain ⟨t137, fH, H⟩ := H
 replace H : (if a1 ≥ t137 then ((yS.f ah av).bind fun t138 => (some (decide (a1 ≤ t138)))) else (some false)) = some r := H
 have A3 := am fH
 clear fH
 by_cases c4 : a1 ≥ t137
 ·rw [if_pos c4] at H
  have fJ : decide (t137 ≤ a1) = true := decide_eq_true c4
  clear c4
  replace H := Option.bind_eq_some_iff.mp H
  obtain ⟨t138, jA, H⟩ := H
  replace H : (some (decide (a1 ≤ t138))) = some r := H
  have A5 := am jA
  clear jA
  obtain rfl := Option.some.inj H
  go_enter Tryz.func67, Tryz.ntmps67
  go_wp2_with (first | ((with_reducible refine cK (N := 2) rfl ?_); refine cO ?hg (N := 2) ?hd (cs := #[.bool ah, .int .i64 av]) (t := 48) ?hr ?_; (case hd => rfl); (case hg => rfl); (case hr => first | (go_simp; done) | (go_simp; rfl)); intro xE hg w6 aV hb; have ay := am (bP (by repeat (first | (with_reducible first | exact HB.out | apply bA | apply pN | apply au) | exact HB.out)) hb); have aA := am (aV); have aK := am ((by rw [hg]; exact (bZ (by repeat (first | (with_reducible first | exact HB.out | apply bA | apply pN | apply au) | exact HB.out))) : w.heap.size ≤ xE)); have aU := am ((by rw [hg]; exact (bZ (by repeat (first | (with_reducible first | exact HB.out | apply bA | apply pN | apply au) | exact HB.out))) : w.heap.size ≤ xE)); clear HB; have HB := ay; have jL := aA; have aec := aK; have Co := aU; clear ay aA aK aU; clear hb aV hg; have := cz jL.out 0 rfl; have := cz jL.out 1 rfl; have := fz jL.out 0; have := fz jL.out 1) | ((with_reducible refine bY (f := 135) rfl ?_); refine b_ (some 7) rfl rfl Tryz.func135 (by kernel_rfl) rfl #[.agg #[.bool ah, .int .i64 av]] rfl (by (try simp only [List.map_toArray, List.map_cons, List.map_nil]); first | done | rfl | (simp only [List.length_drop, List.length_take]; rfl)) ?_; (with_reducible refine (yR.calls ah av t137 _ A3.out).mono ?_); rintro e w8 ⟨rfl, hb⟩; refine ⟨_, rfl, ?_⟩; have ay := am (kB (g := xE) (o := .cells #[.bool ah, .int .i64 av] 48 (0, 0)) (by (with_reducible repeat (first | apply kN | apply kD | apply kA)); exact jL.out) hb); have aA := am (bP (by repeat (first | (with_reducible first | exact HB.out | apply bA | apply pN | apply au | refine bS ?_ Co.out) | exact HB.out)) hb); clear jL; clear HB; have jL := ay; have HB := aA; clear ay aA; (try clear hb); (try clear hb2); (try clear hk); (try clear hi); have := cz jL.out 0 rfl; have := cz jL.out 1 rfl; have := fz jL.out 0; have := fz jL.out 1) | (go_at_call 136; (with_reducible refine (yS.calls ah av t138 _ A5.out).mono ?_); rintro e o7 ⟨rfl, hb⟩; have ay := am (kB (g := xE) (o := .cells #[.bool ah, .int .i64 av] 48 (0, 0)) (by (with_reducible repeat (first | apply kN | apply kD | apply kA)); exact jL.out) hb); have aA := am (bP (by repeat (first | (with_reducible first | exact HB.out | apply bA | apply pN | apply au | refine bS ?_ Co.out) | exact HB.out)) hb); clear jL; clear HB; have jL := ay; have HB := aA; clear ay aA; (try clear hb); (try clear hb2); (try clear hk); (try clear hi)))
  go_ret
  exact ⟨by first | rfl | (simp [aQ, aR] <;> rfl) | (simp [*, aQ, aR] <;> rfl), by repeat (first | (with_reducible first | exact HB.out | apply bA | apply pN | apply au | refine bS ?_ Co.out) | exact HB.out)⟩
 ·rw [if_neg c4] at H
  have fJ : decide (t137 ≤ a1) = false := decide_eq_false c4
  clear c4
  obtain rfl := Option.some.inj H
  go_enter Tryz.func67, Tryz.ntmps67
  go_wp2_with (first | ((with_reducible refine cK (N := 2) rfl ?_); refine cO ?hg (N := 2) ?hd (cs := #[.bool ah, .int .i64 av]) (t := 48) ?hr ?_; (case hd => rfl); (case hg => rfl); (case hr => first | (go_simp; done) | (go_simp; rfl)); intro xE hg sP aV hb; have ay := am (bP (by repeat (first | (with_reducible first | exact HB.out | apply bA | apply pN | apply au) | exact HB.out)) hb); have aA := am (aV); have aK := am ((by rw [hg]; exact (bZ (by repeat (first | (with_reducible first | exact HB.out | apply bA | apply pN | apply au) | exact HB.out))) : w.heap.size ≤ xE)); have aU := am ((by rw [hg]; exact (bZ (by repeat (first | (with_reducible first | exact HB.out | apply bA | apply pN | apply au) | exact HB.out))) : w.heap.size ≤ xE)); clear HB; have HB := ay; have jL := aA; have aec := aK; have Co := aU; clear ay aA aK aU; clear hb aV hg; have := cz jL.out 0 rfl; have := cz jL.out 1 rfl; have := fz jL.out 0; have := fz jL.out 1) | ((with_reducible refine bY (f := 135) rfl ?_); refine b_ (some 7) rfl rfl Tryz.func135 (by kernel_rfl) rfl #[.agg #[.bool ah, .int .i64 av]] rfl (by (try simp only [List.map_toArray, List.map_cons, List.map_nil]); first | done | rfl | (simp only [List.length_drop, List.length_take]; rfl)) ?_; (with_reducible refine (yR.calls ah av t137 _ A3.out).mono ?_); rintro e Eo ⟨rfl, hb⟩; refine ⟨_, rfl, ?_⟩; have ay := am (kB (g := xE) (o := .cells #[.bool ah, .int .i64 av] 48 (0, 0)) (by (with_reducible repeat (first | apply kN | apply kD | apply kA)); exact jL.out) hb); have aA := am (bP (by repeat (first | (with_reducible first | exact HB.out | apply bA | apply pN | apply au | refine bS ?_ Co.out) | exact HB.out)) hb); clear jL; clear HB; have jL := ay; have HB := aA; clear ay aA; (try clear hb); (try clear hb2); (try clear hk); (try clear hi)))
  go_ret
  exact ⟨by first | rfl | (simp [aQ, aR] <;> rfl) | (simp [*, aQ, aR] <;> rfl), by repeat (first | (with_reducible first | exact HB.out | apply bA | apply pN | apply au | refine bS ?_ Co.out) | exact HB.out)⟩
noncomputable def wN.f (ah : Bool) (av : Int) (a1 : Int) : Option (Bool × Int) := (gK.f ah av).bind fun t140 => (if t140 = 0 then ((yT.f ah av a1).bind fun t141 => (some (t141, 0))) else (some (false, t140)))
theorem wN.calls (ah : Bool) (av : Int) (a1 : Int) (r1 : Bool) (r2 : Int) (w : World) (h : wN.f ah av a1 = some (r1, r2)) :
 Calls Tryz.prog 35 #[.agg #[.bool ah, .int .i64 av], .int .i64 a1] w fun e w' => e = .returned (.tuple #[.bool r1, .int .i64 r2]) ∧ Below w.heap.size w w' := by
 have mg := Tryz.underlying48
 have HB := am (Below.refl w.heap.size w)
 have H : ((gK.f ah av).bind fun t140 => (if t140 = 0 then ((yT.f ah av a1).bind fun t141 => (some (t141, 0))) else (some (false, t140)))) = some (r1, r2) := h
 clear h
 replace H := Option.bind_eq_some_iff.mp H
 obtain ⟨t140, fH, H⟩ := H
 replace H : (if t140 = 0 then ((yT.f ah av a1).bind fun t141 => (some (t141, 0))) else (some (false, t140))) = some (r1, r2) := H
 have A3 := am fH
 clear fH
 by_cases c4 : t140 = 0
 ·rw [if_pos c4] at H
  have fJ : (t140 == 0) = true := beq_iff_eq.mpr c4
  have uM : (t140 != 0) = false := bne_eq_false_iff_eq.mpr c4
  clear c4
  replace H := Option.bind_eq_some_iff.mp H
  obtain ⟨t141, jA, H⟩ := H
  replace H : (some (t141, 0)) = some (r1, r2) := H
  have A5 := am jA
  clear jA
  simp only [Option.some.injEq, Prod.mk.injEq] at H
  obtain ⟨rfl, rfl⟩ := H
  go_enter Tryz.func35, Tryz.ntmps35
  go_wp2_with (first | ((with_reducible refine cK (N := 2) rfl ?_); refine cO ?hg (N := 2) ?hd (cs := #[.bool ah, .int .i64 av]) (t := 48) ?hr ?_; (case hd => rfl); (case hg => rfl); (case hr => first | (go_simp; done) | (go_simp; rfl)); intro xG hg w6 aV hb; have ay := am (bP (by repeat (first | (with_reducible first | exact HB.out | apply bA | apply pN | apply au) | exact HB.out)) hb); have aA := am (aV); have aK := am ((by rw [hg]; exact (bZ (by repeat (first | (with_reducible first | exact HB.out | apply bA | apply pN | apply au) | exact HB.out))) : w.heap.size ≤ xG)); have aU := am ((by rw [hg]; exact (bZ (by repeat (first | (with_reducible first | exact HB.out | apply bA | apply pN | apply au) | exact HB.out))) : w.heap.size ≤ xG)); clear HB; have HB := ay; have jM := aA; have aed := aK; have Cq := aU; clear ay aA aK aU; clear hb aV hg; have := cz jM.out 0 rfl; have := cz jM.out 1 rfl; have := fz jM.out 0; have := fz jM.out 1) | ((with_reducible refine bY (f := 64) rfl ?_); refine b_ (some 8) rfl rfl Tryz.func64 (by kernel_rfl) rfl #[.agg #[.bool ah, .int .i64 av]] rfl (by (try simp only [List.map_toArray, List.map_cons, List.map_nil]); first | done | rfl | (simp only [List.length_drop, List.length_take]; rfl)) ?_; (with_reducible refine (gK.calls ah av t140 _ A3.out).mono ?_); rintro e w8 ⟨rfl, hb⟩; refine ⟨_, rfl, ?_⟩; have ay := am (kB (g := xG) (o := .cells #[.bool ah, .int .i64 av] 48 (0, 0)) (by (with_reducible repeat (first | apply kN | apply kD | apply kA)); exact jM.out) hb); have aA := am (bP (by repeat (first | (with_reducible first | exact HB.out | apply bA | apply pN | apply au | refine bS ?_ Cq.out) | exact HB.out)) hb); clear jM; clear HB; have jM := ay; have HB := aA; clear ay aA; (try clear hb); (try clear hb2); (try clear hk); (try clear hi); have := cz jM.out 0 rfl; have := cz jM.out 1 rfl; have := fz jM.out 0; have := fz jM.out 1) | ((with_reducible refine bY (f := 67) rfl ?_); refine b_ (some 14) rfl rfl Tryz.func67 (by kernel_rfl) rfl #[.agg #[.bool ah, .int .i64 av], .int .i64 a1] rfl (by (try simp only [List.map_toArray, List.map_cons, List.map_nil]); first | done | rfl | (simp only [List.length_drop, List.length_take]; rfl)) ?_; (with_reducible refine (yT.calls ah av a1 t141 _ A5.out).mono ?_); rintro e o7 ⟨rfl, hb⟩; refine ⟨_, rfl, ?_⟩; have ay := am (kB (g := xG) (o := .cells #[.bool ah, .int .i64 av] 48 (0, 0)) (by (with_reducible repeat (first | apply kN | apply kD | apply kA)); exact jM.out) hb); have aA := am (bP (by repeat (first | (with_reducible first | exact HB.out | apply bA | apply pN | apply au | refine bS ?_ Cq.out) | exact HB.out)) hb); clear jM; clear HB; have jM := ay; have HB := aA; clear ay aA; (try clear hb); (try clear hb2); (try clear hk); (try clear hi)))
  go_ret2
  exact ⟨by first | rfl | (simp [aQ, aR] <;> rfl) | (simp [*, aQ, aR] <;> rfl), by repeat (first | (with_reducible first | exact HB.out | apply bA | apply pN | apply au | refine bS ?_ Cq.out) | exact HB.out)⟩
 ·rw [if_neg c4] at H
  have fJ : (t140 == 0) = false := beq_eq_false_iff_ne.mpr c4
  have uM : (t140 != 0) = true := bne_iff_ne.mpr c4
  simp only [Option.some.injEq, Prod.mk.injEq] at H
  obtain ⟨rfl, rfl⟩ := H
  go_enter Tryz.func35, Tryz.ntmps35
  go_wp2_with (first | ((with_reducible refine cK (N := 2) rfl ?_); refine cO ?hg (N := 2) ?hd (cs := #[.bool ah, .int .i64 av]) (t := 48) ?hr ?_; (case hd => rfl); (case hg => rfl); (case hr => first | (go_simp; done) | (go_simp; rfl)); intro xG hg sP aV hb; have ay := am (bP (by repeat (first | (with_reducible first | exact HB.out | apply bA | apply pN | apply au) | exact HB.out)) hb); have aA := am (aV); have aK := am ((by rw [hg]; exact (bZ (by repeat (first | (with_reducible first | exact HB.out | apply bA | apply pN | apply au) | exact HB.out))) : w.heap.size ≤ xG)); have aU := am ((by rw [hg]; exact (bZ (by repeat (first | (with_reducible first | exact HB.out | apply bA | apply pN | apply au) | exact HB.out))) : w.heap.size ≤ xG)); clear HB; have HB := ay; have jM := aA; have aed := aK; have Cq := aU; clear ay aA aK aU; clear hb aV hg; have := cz jM.out 0 rfl; have := cz jM.out 1 rfl; have := fz jM.out 0; have := fz jM.out 1) | ((with_reducible refine bY (f := 64) rfl ?_); refine b_ (some 8) rfl rfl Tryz.func64 (by kernel_rfl) rfl #[.agg #[.bool ah, .int .i64 av]] rfl (by (try simp only [List.map_toArray, List.map_cons, List.map_nil]); first | done | rfl | (simp only [List.length_drop, List.length_take]; rfl)) ?_; (with_reducible refine (gK.calls ah av t140 _ A3.out).mono ?_); rintro e Eo ⟨rfl, hb⟩; refine ⟨_, rfl, ?_⟩; have ay := am (kB (g := xG) (o := .cells #[.bool ah, .int .i64 av] 48 (0, 0)) (by (with_reducible repeat (first | apply kN | apply kD | apply kA)); exact jM.out) hb); have aA := am (bP (by repeat (first | (with_reducible first | exact HB.out | apply bA | apply pN | apply au | refine bS ?_ Cq.out) | exact HB.out)) hb); clear jM; clear HB; have jM := ay; have HB := aA; clear ay aA; (try clear hb); (try clear hb2); (try clear hk); (try clear hi)))
  go_ret2
  exact ⟨by first | rfl | (simp [aQ, aR] <;> rfl) | (simp [*, aQ, aR] <;> rfl), by repeat (first | (with_reducible first | exact HB.out | apply bA | apply pN | apply au | refine bS ?_ Cq.out) | exact HB.out)⟩
end Go.Proofs.YtgliaoanlhbepaaGreatDoor.Q
