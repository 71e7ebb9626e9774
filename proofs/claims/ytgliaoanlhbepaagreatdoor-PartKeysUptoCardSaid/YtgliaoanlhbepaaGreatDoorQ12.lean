/- Walks, printed by a program of this session: what each function of the law computes. -/
import Derived.Test.YtgliaoanlhbepaaGreatDoorQ0
import Derived.Test.YtgliaoanlhbepaaGreatDoorQ9
import Derived.Test.YtgliaoanlhbepaaGreatDoorQ10
namespace Go.Proofs.YtgliaoanlhbepaaGreatDoor.Q
open Go.RowKit Go.Proofs.bT.eG Go.Proofs.bT.iM Go.Proofs.bT.jd
open Go.Proofs.bT.eG renaming lF → pN, lZ → au, l6 → bA, mZ → bS, m_ → bZ, ng → bP, ni → kN, nk → kD, nu → kA, ny → fz, nA → kB, lH → kL
attribute [local go_sem] nC nD nE nG nH nI nJ nK
set_option maxHeartbeats 8000000
set_option maxRecDepth 100000
set_option linter.unusedVariables false
set_option linter.unusedSimpArgs false
noncomputable def jw.f (k : Nat) (ah : Int) (av : Int) (aG : ByteArray) (aJ : Bool) (aI : Bool) : Option (ByteArray) := if ah = 0 then (some (⟨#[118, 111, 105, 100]⟩ : ByteArray)) else (if ah = 1 then (some (⟨#[98, 111, 111, 108]⟩ : ByteArray)) else (if ah = 4 then (some (⟨#[116, 121, 112, 101]⟩ : ByteArray)) else (if ah = 5 then (some aG) else ((p9.f ah av aG aJ aI).bind fun Ed => ((jk.f k Ed.1 Ed.2).bind fun t259 => (some t259))))))
theorem jw.calls (k : Nat) (ah : Int) (av : Int) (aG : ByteArray) (aJ : Bool) (aI : Bool) (r : ByteArray) (w : World) (h : jw.f k ah av aG aJ aI = some r) :
 Calls Tryz.prog 75 #[.agg #[.int .i64 ah, .int .i64 av, .string aG, .bool aJ, .bool aI]] w fun e w' => e = .returned (.string r) ∧ Below w.heap.size w w' := by
 have lI := Tryz.underlying29
 have HB := am (Below.refl w.heap.size w)
 have H : (if ah = 0 then (some (⟨#[118, 111, 105, 100]⟩ : ByteArray)) else (if ah = 1 then (some (⟨#[98, 111, 111, 108]⟩ : ByteArray)) else (if ah = 4 then (some (⟨#[116, 121, 112, 101]⟩ : ByteArray)) else (if ah = 5 then (some aG) else ((p9.f ah av aG aJ aI).bind fun Ed => ((jk.f k Ed.1 Ed.2).bind fun t259 => (some t259))))))) = some r := h
 clear h
 by_cases c2 : ah = 0
 ·rw [if_pos c2] at H
  have iN : (ah == 0) = true := beq_iff_eq.mpr c2
  have nM : (ah != 0) = false := bne_eq_false_iff_eq.mpr c2
  clear c2
  obtain rfl := Option.some.inj H
  go_enter Tryz.func75, Tryz.ntmps75
  go_wp2_with (first | ((with_reducible refine cK (N := 1) rfl ?_); refine cO ?hg (N := 1) ?hd (cs := #[.int .i64 ah, .int .i64 av, .string aG, .bool aJ, .bool aI]) (t := 29) ?hr ?_; (case hd => rfl); (case hg => rfl); (case hr => first | (go_simp; done) | (go_simp; rfl)); intro mh hg w3 aV hb; have ay := am (bP (by repeat (first | (with_reducible first | exact HB.out | apply bA | apply pN | apply au) | exact HB.out)) hb); have aA := am (aV); have aK := am ((by rw [hg]; exact (bZ (by repeat (first | (with_reducible first | exact HB.out | apply bA | apply pN | apply au) | exact HB.out))) : w.heap.size ≤ mh)); have aU := am ((by rw [hg]; exact (bZ (by repeat (first | (with_reducible first | exact HB.out | apply bA | apply pN | apply au) | exact HB.out))) : w.heap.size ≤ mh)); clear HB; have HB := ay; have dU := aA; have He := aK; have qo := aU; clear ay aA aK aU; clear hb aV hg; have := cz dU.out 0 rfl; have := cz dU.out 1 rfl; have := cz dU.out 2 rfl; have := cz dU.out 3 rfl; have := cz dU.out 4 rfl; have := fz dU.out 0; have := fz dU.out 1; have := fz dU.out 2; have := fz dU.out 3; have := fz dU.out 4))
  go_ret
  exact ⟨by first | rfl | (simp [aQ, aR] <;> rfl) | (simp [*, aQ, aR] <;> rfl), by repeat (first | (with_reducible first | exact HB.out | apply bA | apply pN | apply au | refine bS ?_ qo.out) | exact HB.out)⟩
 ·rw [if_neg c2] at H
  have iN : (ah == 0) = false := beq_eq_false_iff_ne.mpr c2
  have nM : (ah != 0) = true := bne_iff_ne.mpr c2
  by_cases c5 : ah = 1
  ·rw [if_pos c5] at H
   have g_ : (ah == 1) = true := beq_iff_eq.mpr c5
   have kW : (ah != 1) = false := bne_eq_false_iff_eq.mpr c5
   clear c5
   obtain rfl := Option.some.inj H
   go_enter Tryz.func75, Tryz.ntmps75
   go_wp2_with (first | ((with_reducible refine cK (N := 1) rfl ?_); refine cO ?hg (N := 1) ?hd (cs := #[.int .i64 ah, .int .i64 av, .string aG, .bool aJ, .bool aI]) (t := 29) ?hr ?_; (case hd => rfl); (case hg => rfl); (case hr => first | (go_simp; done) | (go_simp; rfl)); intro mh hg w6 aV hb; have ay := am (bP (by repeat (first | (with_reducible first | exact HB.out | apply bA | apply pN | apply au) | exact HB.out)) hb); have aA := am (aV); have aK := am ((by rw [hg]; exact (bZ (by repeat (first | (with_reducible first | exact HB.out | apply bA | apply pN | apply au) | exact HB.out))) : w.heap.size ≤ mh)); have aU := am ((by rw [hg]; exact (bZ (by repeat (first | (with_reducible first | exact HB.out | apply bA | apply pN | apply au) | exact HB.out))) : w.heap.size ≤ mh)); clear HB; have HB := ay; have dU := aA; have He := aK; have qo := aU; clear ay aA aK aU; clear hb aV hg; have := cz dU.out 0 rfl; have := cz dU.out 1 rfl; have := cz dU.out 2 rfl; have := cz dU.out 3 rfl; have := cz dU.out 4 rfl; have := fz dU.out 0; have := fz dU.out 1; have := fz dU.out 2; have := fz dU.out 3; have := fz dU.out 4))
   go_ret
   exact ⟨by first | rfl | (simp [aQ, aR] <;> rfl) | (simp [*, aQ, aR] <;> rfl), by repeat (first | (with_reducible first | exact HB.out | apply bA | apply pN | apply au | refine bS ?_ qo.out) | exact HB.out)⟩
  ·rw [if_neg c5] at H
   have g_ : (ah == 1) = false := beq_eq_false_iff_ne.mpr c5
   have kW : (ah != 1) = true := bne_iff_ne.mpr c5
   by_cases c8 : ah = 4
   ·rw [if_pos c8] at H
    have l8 : (ah == 4) = true := beq_iff_eq.mpr c8
    have l9 : (ah != 4) = false := bne_eq_false_iff_eq.mpr c8
    clear c8
    obtain rfl := Option.some.inj H
    go_enter Tryz.func75, Tryz.ntmps75
    go_wp2_with (first | ((with_reducible refine cK (N := 1) rfl ?_); refine cO ?hg (N := 1) ?hd (cs := #[.int .i64 ah, .int .i64 av, .string aG, .bool aJ, .bool aI]) (t := 29) ?hr ?_; (case hd => rfl); (case hg => rfl); (case hr => first | (go_simp; done) | (go_simp; rfl)); intro mh hg w9 aV hb; have ay := am (bP (by repeat (first | (with_reducible first | exact HB.out | apply bA | apply pN | apply au) | exact HB.out)) hb); have aA := am (aV); have aK := am ((by rw [hg]; exact (bZ (by repeat (first | (with_reducible first | exact HB.out | apply bA | apply pN | apply au) | exact HB.out))) : w.heap.size ≤ mh)); have aU := am ((by rw [hg]; exact (bZ (by repeat (first | (with_reducible first | exact HB.out | apply bA | apply pN | apply au) | exact HB.out))) : w.heap.size ≤ mh)); clear HB; have HB := ay; have dU := aA; have He := aK; have qo := aU; clear ay aA aK aU; clear hb aV hg; have := cz dU.out 0 rfl; have := cz dU.out 1 rfl; have := cz dU.out 2 rfl; have := cz dU.out 3 rfl; have := cz dU.out 4 rfl; have := fz dU.out 0; have := fz dU.out 1; have := fz dU.out 2; have := fz dU.out 3; have := fz dU.out 4))
    go_ret
    exact ⟨by first | rfl | (simp [aQ, aR] <;> rfl) | (simp [*, aQ, aR] <;> rfl), by repeat (first | (with_reducible first | exact HB.out | apply bA | apply pN | apply au | refine bS ?_ qo.out) | exact HB.out)⟩
   ·rw [if_neg c8] at H
    have l8 : (ah == 4) = false := beq_eq_false_iff_ne.mpr c8
    have l9 : (ah != 4) = true := bne_iff_ne.mpr c8
    by_cases c11 : ah = 5
    ·rw [if_pos c11] at H
     have og : (ah == 5) = true := beq_iff_eq.mpr c11
     have oZ : (ah != 5) = false := bne_eq_false_iff_eq.mpr c11
     clear c11
     obtain rfl := Option.some.inj H
     go_enter Tryz.func75, Tryz.ntmps75
     go_wp2_with (first | ((with_reducible refine cK (N := 1) rfl ?_); refine cO ?hg (N := 1) ?hd (cs := #[.int .i64 ah, .int .i64 av, .string aG, .bool aJ, .bool aI]) (t := 29) ?hr ?_; (case hd => rfl); (case hg => rfl); (case hr => first | (go_simp; done) | (go_simp; rfl)); intro mh hg uE aV hb; have ay := am (bP (by repeat (first | (with_reducible first | exact HB.out | apply bA | apply pN | apply au) | exact HB.out)) hb); have aA := am (aV); have aK := am ((by rw [hg]; exact (bZ (by repeat (first | (with_reducible first | exact HB.out | apply bA | apply pN | apply au) | exact HB.out))) : w.heap.size ≤ mh)); have aU := am ((by rw [hg]; exact (bZ (by repeat (first | (with_reducible first | exact HB.out | apply bA | apply pN | apply au) | exact HB.out))) : w.heap.size ≤ mh)); clear HB; have HB := ay; have dU := aA; have He := aK; have qo := aU; clear ay aA aK aU; clear hb aV hg; have := cz dU.out 0 rfl; have := cz dU.out 1 rfl; have := cz dU.out 2 rfl; have := cz dU.out 3 rfl; have := cz dU.out 4 rfl; have := fz dU.out 0; have := fz dU.out 1; have := fz dU.out 2; have := fz dU.out 3; have := fz dU.out 4))
     go_ret
     exact ⟨by first | rfl | (simp [aQ, aR] <;> rfl) | (simp [*, aQ, aR] <;> rfl), by repeat (first | (with_reducible first | exact HB.out | apply bA | apply pN | apply au | refine bS ?_ qo.out) | exact HB.out)⟩
    ·rw [if_neg c11] at H
     have og : (ah == 5) = false := beq_eq_false_iff_ne.mpr c11
     have oZ : (ah != 5) = true := bne_iff_ne.mpr c11
     replace H := Option.bind_eq_some_iff.mp H
     obtain ⟨⟨t257, t258⟩, xg, H⟩ := H
     replace H : ((jk.f k t257 t258).bind fun t259 => (some t259)) = some r := H
     have Ee := am xg
     clear xg
     replace H := Option.bind_eq_some_iff.mp H
     obtain ⟨t259, R_, H⟩ := H
     replace H : (some t259) = some r := H
     have A15 := am R_
     clear R_
     obtain rfl := Option.some.inj H
     go_enter Tryz.func75, Tryz.ntmps75
     go_wp2_with (first | ((with_reducible refine cK (N := 1) rfl ?_); refine cO ?hg (N := 1) ?hd (cs := #[.int .i64 ah, .int .i64 av, .string aG, .bool aJ, .bool aI]) (t := 29) ?hr ?_; (case hd => rfl); (case hg => rfl); (case hr => first | (go_simp; done) | (go_simp; rfl)); intro mh hg w16 aV hb; have ay := am (bP (by repeat (first | (with_reducible first | exact HB.out | apply bA | apply pN | apply au) | exact HB.out)) hb); have aA := am (aV); have aK := am ((by rw [hg]; exact (bZ (by repeat (first | (with_reducible first | exact HB.out | apply bA | apply pN | apply au) | exact HB.out))) : w.heap.size ≤ mh)); have aU := am ((by rw [hg]; exact (bZ (by repeat (first | (with_reducible first | exact HB.out | apply bA | apply pN | apply au) | exact HB.out))) : w.heap.size ≤ mh)); clear HB; have HB := ay; have dU := aA; have He := aK; have qo := aU; clear ay aA aK aU; clear hb aV hg; have := cz dU.out 0 rfl; have := cz dU.out 1 rfl; have := cz dU.out 2 rfl; have := cz dU.out 3 rfl; have := cz dU.out 4 rfl; have := fz dU.out 0; have := fz dU.out 1; have := fz dU.out 2; have := fz dU.out 3; have := fz dU.out 4) | ((with_reducible refine bY (f := 21) rfl ?_); refine b_ (some 16) rfl rfl Tryz.func21 (by kernel_rfl) rfl #[.agg #[.int .i64 ah, .int .i64 av, .string aG, .bool aJ, .bool aI]] rfl (by (try simp only [List.map_toArray, List.map_cons, List.map_nil]); first | done | rfl | (simp only [List.length_drop, List.length_take]; rfl)) ?_; (with_reducible refine (p9.calls ah av aG aJ aI t257 t258 _ Ee.out).mono ?_); rintro e Sb ⟨rfl, hb⟩; refine ⟨_, rfl, ?_⟩; have ay := am (kB (g := mh) (o := .cells #[.int .i64 ah, .int .i64 av, .string aG, .bool aJ, .bool aI] 29 (0, 0)) (by (with_reducible repeat (first | apply kN | apply kD | apply kA)); exact dU.out) hb); have aA := am (bP (by repeat (first | (with_reducible first | exact HB.out | apply bA | apply pN | apply au | refine bS ?_ qo.out) | exact HB.out)) hb); clear dU; clear HB; have dU := ay; have HB := aA; clear ay aA; (try clear hb); (try clear hb2); (try clear hk); (try clear hi)) | ((with_reducible refine bY (f := 143) rfl ?_); refine b_ (some 17) rfl rfl Tryz.func143 (by kernel_rfl) rfl #[.agg #[.bool t257, .int .i64 t258]] rfl (by (try simp only [List.map_toArray, List.map_cons, List.map_nil]); first | done | rfl | (simp only [List.length_drop, List.length_take]; rfl)) ?_; (with_reducible refine (jk.calls k t257 t258 t259 _ A15.out).mono ?_); rintro e DW ⟨rfl, hb⟩; refine ⟨_, rfl, ?_⟩; have ay := am (kB (g := mh) (o := .cells #[.int .i64 ah, .int .i64 av, .string aG, .bool aJ, .bool aI] 29 (0, 0)) (by (with_reducible repeat (first | apply kN | apply kD | apply kA)); exact dU.out) hb); have aA := am (bP (by repeat (first | (with_reducible first | exact HB.out | apply bA | apply pN | apply au | refine bS ?_ qo.out) | exact HB.out)) hb); clear dU; clear HB; have dU := ay; have HB := aA; clear ay aA; (try clear hb); (try clear hb2); (try clear hk); (try clear hi)))
     go_ret
     exact ⟨by first | rfl | (simp [aQ, aR] <;> rfl) | (simp [*, aQ, aR] <;> rfl), by repeat (first | (with_reducible first | exact HB.out | apply bA | apply pN | apply au | refine bS ?_ qo.out) | exact HB.out)⟩
noncomputable def yV.f (k : Nat) (ah : Int) (av : Int) (aG : ByteArray) (aJ : Bool) (aI : Bool) : Option (ByteArray) := if aI = true then (if aJ = true then (if 2 ≤ 9223372036854775807 then ((jw.f k ah av aG aJ aI).bind fun t261 => (if 2 + t261.size ≤ 9223372036854775807 then (some (((⟨#[33]⟩ : ByteArray) ++ (⟨#[63]⟩ : ByteArray)) ++ t261)) else (none))) else (none)) else ((jw.f k ah av aG aJ aI).bind fun t262 => (if 1 + t262.size ≤ 9223372036854775807 then (some ((⟨#[33]⟩ : ByteArray) ++ t262)) else (none)))) else (if aJ = true then (if 1 ≤ 9223372036854775807 then ((jw.f k ah av aG aJ aI).bind fun t263 => (if 1 + t263.size ≤ 9223372036854775807 then (some (((⟨#[]⟩ : ByteArray) ++ (⟨#[63]⟩ : ByteArray)) ++ t263)) else (none))) else (none)) else ((jw.f k ah av aG aJ aI).bind fun t264 => (if t264.size ≤ 9223372036854775807 then (some ((⟨#[]⟩ : ByteArray) ++ t264)) else (none))))
theorem yV.calls (k : Nat) (ah : Int) (av : Int) (aG : ByteArray) (aJ : Bool) (aI : Bool) (r : ByteArray) (w : World) (h : yV.f k ah av aG aJ aI = some r) :
 Calls Tryz.prog 45 #[.agg #[.int .i64 ah, .int .i64 av, .string aG, .bool aJ, .bool aI]] w fun e w' => e = .returned (.string r) ∧ Below w.heap.size w w' := by
 have lI := Tryz.underlying29
 have HB := am (Below.refl w.heap.size w)
 have H : (if aI = true then (if aJ = true then (if 2 ≤ 9223372036854775807 then ((jw.f k ah av aG aJ aI).bind fun t261 => (if 2 + t261.size ≤ 9223372036854775807 then (some (((⟨#[33]⟩ : ByteArray) ++ (⟨#[63]⟩ : ByteArray)) ++ t261)) else (none))) else (none)) else ((jw.f k ah av aG aJ aI).bind fun t262 => (if 1 + t262.size ≤ 9223372036854775807 then (some ((⟨#[33]⟩ : ByteArray) ++ t262)) else (none)))) else (if aJ = true then (if 1 ≤ 9223372036854775807 then ((jw.f k ah av aG aJ aI).bind fun t263 => (if 1 + t263.size ≤ 9223372036854775807 then (some (((⟨#[]⟩ : ByteArray) ++ (⟨#[63]⟩ : ByteArray)) ++ t263)) else (none))) else (none)) else ((jw.f k ah av aG aJ aI).bind fun t264 => (if t264.size ≤ 9223372036854775807 then (some ((⟨#[]⟩ : ByteArray) ++ t264)) else (none))))) = some r := h
 clear h
 by_cases c2 : aI = true
 ·subst c2
  have H1 : (if aJ = true then (if 2 ≤ 9223372036854775807 then ((jw.f k ah av aG aJ true).bind fun t261 => (if 2 + t261.size ≤ 9223372036854775807 then (some (((⟨#[33]⟩ : ByteArray) ++ (⟨#[63]⟩ : ByteArray)) ++ t261)) else (none))) else (none)) else ((jw.f k ah av aG aJ true).bind fun t262 => (if 1 + t262.size ≤ 9223372036854775807 then (some ((⟨#[33]⟩ : ByteArray) ++ t262)) else (none)))) = some r := by rw [if_pos rfl] at H; exact H
  clear H
  have H := H1
  clear H1
  by_cases c3 : aJ = true
  ·subst c3
   have H1 : (if 2 ≤ 9223372036854775807 then ((jw.f k ah av aG true true).bind fun t261 => (if 2 + t261.size ≤ 9223372036854775807 then (some (((⟨#[33]⟩ : ByteArray) ++ (⟨#[63]⟩ : ByteArray)) ++ t261)) else (none))) else (none)) = some r := by rw [if_pos rfl] at H; exact H
   clear H
   have H := H1
   clear H1
   by_cases c4 : 2 ≤ 9223372036854775807
   ·rw [if_pos c4] at H
    have fJ := eq_true c4
    have uM : decide (2 ≤ 9223372036854775807) = true := decide_eq_true c4
    try have ac4 : (9223372036854775807 < 2) = False := eq_false (Nat.not_lt.2 c4)
    clear c4
    replace H := Option.bind_eq_some_iff.mp H
    obtain ⟨t261, jA, H⟩ := H
    replace H : (if 2 + t261.size ≤ 9223372036854775807 then (some (((⟨#[33]⟩ : ByteArray) ++ (⟨#[63]⟩ : ByteArray)) ++ t261)) else (none)) = some r := H
    have A5 := am jA
    clear jA
    by_cases c6 : 2 + t261.size ≤ 9223372036854775807
    ·rw [if_pos c6] at H
     have gT := eq_true c6
     have mP : decide (2 + t261.size ≤ 9223372036854775807) = true := decide_eq_true c6
     try have Sc : (9223372036854775807 < 2 + t261.size) = False := eq_false (Nat.not_lt.2 c6)
     obtain rfl := Option.some.inj H
     go_enter Tryz.func45, Tryz.ntmps45
     go_wp2_with (first | ((with_reducible refine cK (N := 1) rfl ?_); refine cO ?hg (N := 1) ?hd (cs := #[.int .i64 ah, .int .i64 av, .string aG, .bool true, .bool true]) (t := 29) ?hr ?_; (case hd => rfl); (case hg => rfl); (case hr => first | (go_simp; done) | (go_simp; rfl)); intro mQ hg w7 aV hb; have ay := am (bP (by repeat (first | (with_reducible first | exact HB.out | apply bA | apply pN | apply au) | exact HB.out)) hb); have aA := am (aV); have aK := am ((by rw [hg]; exact (bZ (by repeat (first | (with_reducible first | exact HB.out | apply bA | apply pN | apply au) | exact HB.out))) : w.heap.size ≤ mQ)); have aU := am ((by rw [hg]; exact (bZ (by repeat (first | (with_reducible first | exact HB.out | apply bA | apply pN | apply au) | exact HB.out))) : w.heap.size ≤ mQ)); clear HB; have HB := ay; have d_ := aA; have LP := aK; have qp := aU; clear ay aA aK aU; clear hb aV hg; have := cz d_.out 0 rfl; have := cz d_.out 1 rfl; have := cz d_.out 2 rfl; have := cz d_.out 3 rfl; have := cz d_.out 4 rfl; have := fz d_.out 0; have := fz d_.out 1; have := fz d_.out 2; have := fz d_.out 3; have := fz d_.out 4) | ((with_reducible refine bY (f := 75) rfl ?_); refine b_ (some 12) rfl rfl Tryz.func75 (by kernel_rfl) rfl #[.agg #[.int .i64 ah, .int .i64 av, .string aG, .bool true, .bool true]] rfl (by (try simp only [List.map_toArray, List.map_cons, List.map_nil]); first | done | rfl | (simp only [List.length_drop, List.length_take]; rfl)) ?_; (with_reducible refine (jw.calls k ah av aG true true t261 _ A5.out).mono ?_); rintro e w9 ⟨rfl, hb⟩; refine ⟨_, rfl, ?_⟩; have ay := am (kB (g := mQ) (o := .cells #[.int .i64 ah, .int .i64 av, .string aG, .bool true, .bool true] 29 (0, 0)) (by (with_reducible repeat (first | apply kN | apply kD | apply kA)); exact d_.out) hb); have aA := am (bP (by repeat (first | (with_reducible first | exact HB.out | apply bA | apply pN | apply au | refine bS ?_ qp.out) | exact HB.out)) hb); clear d_; clear HB; have d_ := ay; have HB := aA; clear ay aA; (try clear hb); (try clear hb2); (try clear hk); (try clear hi)))
     go_ret
     exact ⟨by first | rfl | (simp [aQ, aR] <;> rfl) | (simp [*, aQ, aR] <;> rfl), by repeat (first | (with_reducible first | exact HB.out | apply bA | apply pN | apply au | refine bS ?_ qp.out) | exact HB.out)⟩
    ·rw [if_neg c6] at H
     exact absurd H (by simp)
   ·rw [if_neg c4] at H
    exact absurd H (by simp)
  ·replace c3 := Bool.eq_false_iff.mpr c3
   subst c3
   have H1 : ((jw.f k ah av aG false true).bind fun t262 => (if 1 + t262.size ≤ 9223372036854775807 then (some ((⟨#[33]⟩ : ByteArray) ++ t262)) else (none))) = some r := by rw [if_neg (show ¬ (false = true) by decide)] at H; exact H
   clear H
   have H := H1
   clear H1
   replace H := Option.bind_eq_some_iff.mp H
   obtain ⟨t262, Sd, H⟩ := H
   replace H : (if 1 + t262.size ≤ 9223372036854775807 then (some ((⟨#[33]⟩ : ByteArray) ++ t262)) else (none)) = some r := H
   have A10 := am Sd
   clear Sd
   by_cases c11 : 1 + t262.size ≤ 9223372036854775807
   ·rw [if_pos c11] at H
    have og := eq_true c11
    have oZ : decide (1 + t262.size ≤ 9223372036854775807) = true := decide_eq_true c11
    try have apt : (9223372036854775807 < 1 + t262.size) = False := eq_false (Nat.not_lt.2 c11)
    obtain rfl := Option.some.inj H
    go_enter Tryz.func45, Tryz.ntmps45
    go_wp2_with (first | ((with_reducible refine cK (N := 1) rfl ?_); refine cO ?hg (N := 1) ?hd (cs := #[.int .i64 ah, .int .i64 av, .string aG, .bool false, .bool true]) (t := 29) ?hr ?_; (case hd => rfl); (case hg => rfl); (case hr => first | (go_simp; done) | (go_simp; rfl)); intro mQ hg uE aV hb; have ay := am (bP (by repeat (first | (with_reducible first | exact HB.out | apply bA | apply pN | apply au) | exact HB.out)) hb); have aA := am (aV); have aK := am ((by rw [hg]; exact (bZ (by repeat (first | (with_reducible first | exact HB.out | apply bA | apply pN | apply au) | exact HB.out))) : w.heap.size ≤ mQ)); have aU := am ((by rw [hg]; exact (bZ (by repeat (first | (with_reducible first | exact HB.out | apply bA | apply pN | apply au) | exact HB.out))) : w.heap.size ≤ mQ)); clear HB; have HB := ay; have d_ := aA; have LP := aK; have qp := aU; clear ay aA aK aU; clear hb aV hg; have := cz d_.out 0 rfl; have := cz d_.out 1 rfl; have := cz d_.out 2 rfl; have := cz d_.out 3 rfl; have := cz d_.out 4 rfl; have := fz d_.out 0; have := fz d_.out 1; have := fz d_.out 2; have := fz d_.out 3; have := fz d_.out 4) | ((with_reducible refine bY (f := 75) rfl ?_); refine b_ (some 12) rfl rfl Tryz.func75 (by kernel_rfl) rfl #[.agg #[.int .i64 ah, .int .i64 av, .string aG, .bool false, .bool true]] rfl (by (try simp only [List.map_toArray, List.map_cons, List.map_nil]); first | done | rfl | (simp only [List.length_drop, List.length_take]; rfl)) ?_; (with_reducible refine (jw.calls k ah av aG false true t262 _ A10.out).mono ?_); rintro e y9 ⟨rfl, hb⟩; refine ⟨_, rfl, ?_⟩; have ay := am (kB (g := mQ) (o := .cells #[.int .i64 ah, .int .i64 av, .string aG, .bool false, .bool true] 29 (0, 0)) (by (with_reducible repeat (first | apply kN | apply kD | apply kA)); exact d_.out) hb); have aA := am (bP (by repeat (first | (with_reducible first | exact HB.out | apply bA | apply pN | apply au | refine bS ?_ qp.out) | exact HB.out)) hb); clear d_; clear HB; have d_ := ay; have HB := aA; clear ay aA; (try clear hb); (try clear hb2); (try clear hk); (try clear hi)))
    go_ret
    exact ⟨by first | rfl | (simp [aQ, aR] <;> rfl) | (simp [*, aQ, aR] <;> rfl), by repeat (first | (with_reducible first | exact HB.out | apply bA | apply pN | apply au | refine bS ?_ qp.out) | exact HB.out)⟩
   ·rw [if_neg c11] at H
    exact absurd H (by simp)
 ·replace c2 := Bool.eq_false_iff.mpr c2
  subst c2
  have H1 : (if aJ = true then (if 1 ≤ 9223372036854775807 then ((jw.f k ah av aG aJ false).bind fun t263 => (if 1 + t263.size ≤ 9223372036854775807 then (some (((⟨#[]⟩ : ByteArray) ++ (⟨#[63]⟩ : ByteArray)) ++ t263)) else (none))) else (none)) else ((jw.f k ah av aG aJ false).bind fun t264 => (if t264.size ≤ 9223372036854775807 then (some ((⟨#[]⟩ : ByteArray) ++ t264)) else (none)))) = some r := by rw [if_neg (show ¬ (false = true) by decide)] at H; exact H
  clear H
  have H := H1
  clear H1
  by_cases c15 : aJ = true
  ·subst c15
   have H1 : (if 1 ≤ 9223372036854775807 then ((jw.f k ah av aG true false).bind fun t263 => (if 1 + t263.size ≤ 9223372036854775807 then (some (((⟨#[]⟩ : ByteArray) ++ (⟨#[63]⟩ : ByteArray)) ++ t263)) else (none))) else (none)) = some r := by rw [if_pos rfl] at H; exact H
   clear H
   have H := H1
   clear H1
   by_cases c16 : 1 ≤ 9223372036854775807
   ·rw [if_pos c16] at H
    have Ef := eq_true c16
    have LQ : decide (1 ≤ 9223372036854775807) = true := decide_eq_true c16
    try have LU : (9223372036854775807 < 1) = False := eq_false (Nat.not_lt.2 c16)
    clear c16
    replace H := Option.bind_eq_some_iff.mp H
    obtain ⟨t263, xk, H⟩ := H
    replace H : (if 1 + t263.size ≤ 9223372036854775807 then (some (((⟨#[]⟩ : ByteArray) ++ (⟨#[63]⟩ : ByteArray)) ++ t263)) else (none)) = some r := H
    have qw := am xk
    clear xk
    by_cases c18 : 1 + t263.size ≤ 9223372036854775807
    ·rw [if_pos c18] at H
     have BQ := eq_true c18
     have BR : decide (1 + t263.size ≤ 9223372036854775807) = true := decide_eq_true c18
     try have apu : (9223372036854775807 < 1 + t263.size) = False := eq_false (Nat.not_lt.2 c18)
     obtain rfl := Option.some.inj H
     go_enter Tryz.func45, Tryz.ntmps45
     go_wp2_with (first | ((with_reducible refine cK (N := 1) rfl ?_); refine cO ?hg (N := 1) ?hd (cs := #[.int .i64 ah, .int .i64 av, .string aG, .bool true, .bool false]) (t := 29) ?hr ?_; (case hd => rfl); (case hg => rfl); (case hr => first | (go_simp; done) | (go_simp; rfl)); intro mQ hg DW aV hb; have ay := am (bP (by repeat (first | (with_reducible first | exact HB.out | apply bA | apply pN | apply au) | exact HB.out)) hb); have aA := am (aV); have aK := am ((by rw [hg]; exact (bZ (by repeat (first | (with_reducible first | exact HB.out | apply bA | apply pN | apply au) | exact HB.out))) : w.heap.size ≤ mQ)); have aU := am ((by rw [hg]; exact (bZ (by repeat (first | (with_reducible first | exact HB.out | apply bA | apply pN | apply au) | exact HB.out))) : w.heap.size ≤ mQ)); clear HB; have HB := ay; have d_ := aA; have LP := aK; have qp := aU; clear ay aA aK aU; clear hb aV hg; have := cz d_.out 0 rfl; have := cz d_.out 1 rfl; have := cz d_.out 2 rfl; have := cz d_.out 3 rfl; have := cz d_.out 4 rfl; have := fz d_.out 0; have := fz d_.out 1; have := fz d_.out 2; have := fz d_.out 3; have := fz d_.out 4) | ((with_reducible refine bY (f := 75) rfl ?_); refine b_ (some 12) rfl rfl Tryz.func75 (by kernel_rfl) rfl #[.agg #[.int .i64 ah, .int .i64 av, .string aG, .bool true, .bool false]] rfl (by (try simp only [List.map_toArray, List.map_cons, List.map_nil]); first | done | rfl | (simp only [List.length_drop, List.length_take]; rfl)) ?_; (with_reducible refine (jw.calls k ah av aG true false t263 _ qw.out).mono ?_); rintro e Eh ⟨rfl, hb⟩; refine ⟨_, rfl, ?_⟩; have ay := am (kB (g := mQ) (o := .cells #[.int .i64 ah, .int .i64 av, .string aG, .bool true, .bool false] 29 (0, 0)) (by (with_reducible repeat (first | apply kN | apply kD | apply kA)); exact d_.out) hb); have aA := am (bP (by repeat (first | (with_reducible first | exact HB.out | apply bA | apply pN | apply au | refine bS ?_ qp.out) | exact HB.out)) hb); clear d_; clear HB; have d_ := ay; have HB := aA; clear ay aA; (try clear hb); (try clear hb2); (try clear hk); (try clear hi)))
     go_ret
     exact ⟨by first | rfl | (simp [aQ, aR] <;> rfl) | (simp [*, aQ, aR] <;> rfl), by repeat (first | (with_reducible first | exact HB.out | apply bA | apply pN | apply au | refine bS ?_ qp.out) | exact HB.out)⟩
    ·rw [if_neg c18] at H
     exact absurd H (by simp)
   ·rw [if_neg c16] at H
    exact absurd H (by simp)
  ·replace c15 := Bool.eq_false_iff.mpr c15
   subst c15
   have H1 : ((jw.f k ah av aG false false).bind fun t264 => (if t264.size ≤ 9223372036854775807 then (some ((⟨#[]⟩ : ByteArray) ++ t264)) else (none))) = some r := by rw [if_neg (show ¬ (false = true) by decide)] at H; exact H
   clear H
   have H := H1
   clear H1
   replace H := Option.bind_eq_some_iff.mp H
   obtain ⟨t264, xq, H⟩ := H
   replace H : (if t264.size ≤ 9223372036854775807 then (some ((⟨#[]⟩ : ByteArray) ++ t264)) else (none)) = some r := H
   have qx := am xq
   clear xq
   by_cases c23 : t264.size ≤ 9223372036854775807
   ·rw [if_pos c23] at H
    have uz := eq_true c23
    have wV : decide (t264.size ≤ 9223372036854775807) = true := decide_eq_true c23
    try have apv : (9223372036854775807 < t264.size) = False := eq_false (Nat.not_lt.2 c23)
    clear c23
    obtain rfl := Option.some.inj H
    go_enter Tryz.func45, Tryz.ntmps45
    go_wp2_with (first | ((with_reducible refine cK (N := 1) rfl ?_); refine cO ?hg (N := 1) ?hd (cs := #[.int .i64 ah, .int .i64 av, .string aG, .bool false, .bool false]) (t := 29) ?hr ?_; (case hd => rfl); (case hg => rfl); (case hr => first | (go_simp; done) | (go_simp; rfl)); intro mQ hg w24 aV hb; have ay := am (bP (by repeat (first | (with_reducible first | exact HB.out | apply bA | apply pN | apply au) | exact HB.out)) hb); have aA := am (aV); have aK := am ((by rw [hg]; exact (bZ (by repeat (first | (with_reducible first | exact HB.out | apply bA | apply pN | apply au) | exact HB.out))) : w.heap.size ≤ mQ)); have aU := am ((by rw [hg]; exact (bZ (by repeat (first | (with_reducible first | exact HB.out | apply bA | apply pN | apply au) | exact HB.out))) : w.heap.size ≤ mQ)); clear HB; have HB := ay; have d_ := aA; have LP := aK; have qp := aU; clear ay aA aK aU; clear hb aV hg; have := cz d_.out 0 rfl; have := cz d_.out 1 rfl; have := cz d_.out 2 rfl; have := cz d_.out 3 rfl; have := cz d_.out 4 rfl; have := fz d_.out 0; have := fz d_.out 1; have := fz d_.out 2; have := fz d_.out 3; have := fz d_.out 4) | ((with_reducible refine bY (f := 75) rfl ?_); refine b_ (some 12) rfl rfl Tryz.func75 (by kernel_rfl) rfl #[.agg #[.int .i64 ah, .int .i64 av, .string aG, .bool false, .bool false]] rfl (by (try simp only [List.map_toArray, List.map_cons, List.map_nil]); first | done | rfl | (simp only [List.length_drop, List.length_take]; rfl)) ?_; (with_reducible refine (jw.calls k ah av aG false false t264 _ qx.out).mono ?_); rintro e Sg ⟨rfl, hb⟩; refine ⟨_, rfl, ?_⟩; have ay := am (kB (g := mQ) (o := .cells #[.int .i64 ah, .int .i64 av, .string aG, .bool false, .bool false] 29 (0, 0)) (by (with_reducible repeat (first | apply kN | apply kD | apply kA)); exact d_.out) hb); have aA := am (bP (by repeat (first | (with_reducible first | exact HB.out | apply bA | apply pN | apply au | refine bS ?_ qp.out) | exact HB.out)) hb); clear d_; clear HB; have d_ := ay; have HB := aA; clear ay aA; (try clear hb); (try clear hb2); (try clear hk); (try clear hi)))
    go_ret
    exact ⟨by first | rfl | (simp [aQ, aR] <;> rfl) | (simp [*, aQ, aR] <;> rfl), by repeat (first | (with_reducible first | exact HB.out | apply bA | apply pN | apply au | refine bS ?_ qp.out) | exact HB.out)⟩
   ·rw [if_neg c23] at H
    exact absurd H (by simp)
noncomputable def jF.j0 : Nat → Bool → Int → Int → ByteArray → Bool → Bool → Int → Bool → ByteArray → Int → Int → ByteArray → Bool → Bool → Option (ByteArray)
 | 0, _, _, _, _, _, _, _, _, _, _, _, _, _, _ => none
 | k + 1, x14, apw, apx, apy, apz, apA, Si, apB, apC, apD, apE, apF, apG, apH => if x14 = true then (if Si = 1 then (some (⟨#[116, 114, 117, 101]⟩ : ByteArray)) else (some (⟨#[102, 97, 108, 115, 101]⟩ : ByteArray))) else ((jS.f k Si).bind fun t267 => (some t267))
noncomputable def jF.f (k : Nat) (ah : Int) (av : Int) (aG : ByteArray) (aJ : Bool) (aI : Bool) (fI : Int) (jT : Bool) (je : ByteArray) (gU : Int) (gV : Int) (gW : ByteArray) (gX : Bool) (gY : Bool) : Option (ByteArray) := if ah = 4 then ((yV.f k gU gV gW gX gY).bind fun t266 => (some t266)) else (if jT = true then (some (⟨#[110, 117, 108, 108]⟩ : ByteArray)) else (if ah = 1 then (jF.j0 k (!aJ) ah av aG aJ aI fI jT je gU gV gW gX gY) else (jF.j0 k false ah av aG aJ aI fI jT je gU gV gW gX gY)))
theorem jF.calls (k : Nat) (ah : Int) (av : Int) (aG : ByteArray) (aJ : Bool) (aI : Bool) (fI : Int) (jT : Bool) (je : ByteArray) (gU : Int) (gV : Int) (gW : ByteArray) (gX : Bool) (gY : Bool) (r : ByteArray) (w : World) (h : jF.f k ah av aG aJ aI fI jT je gU gV gW gX gY = some r) :
 Calls Tryz.prog 22 #[.agg #[.int .i64 ah, .int .i64 av, .string aG, .bool aJ, .bool aI, .int .i64 fI, .bool jT, .string je, .int .i64 gU, .int .i64 gV, .string gW, .bool gX, .bool gY]] w fun e w' => e = .returned (.string r) ∧ Below w.heap.size w w' := by
 have wW := Tryz.underlying31
 have lI := Tryz.underlying29
 have HB := am (Below.refl w.heap.size w)
 have H : (if ah = 4 then ((yV.f k gU gV gW gX gY).bind fun t266 => (some t266)) else (if jT = true then (some (⟨#[110, 117, 108, 108]⟩ : ByteArray)) else (if ah = 1 then (jF.j0 k (!aJ) ah av aG aJ aI fI jT je gU gV gW gX gY) else (jF.j0 k false ah av aG aJ aI fI jT je gU gV gW gX gY)))) = some r := h
 clear h
 by_cases c2 : ah = 4
 ·rw [if_pos c2] at H
  have iN : (ah == 4) = true := beq_iff_eq.mpr c2
  have nM : (ah != 4) = false := bne_eq_false_iff_eq.mpr c2
  clear c2
  replace H := Option.bind_eq_some_iff.mp H
  obtain ⟨t266, fH, H⟩ := H
  replace H : (some t266) = some r := H
  have A3 := am fH
  clear fH
  obtain rfl := Option.some.inj H
  go_enter Tryz.func22, Tryz.ntmps22
  go_wp2_with (first | ((with_reducible refine cK (N := 1) rfl ?_); refine cO ?hg (N := 1) ?hd (cs := #[.int .i64 ah, .int .i64 av, .string aG, .bool aJ, .bool aI, .int .i64 fI, .bool jT, .string je, .int .i64 gU, .int .i64 gV, .string gW, .bool gX, .bool gY]) (t := 31) ?hr ?_; (case hd => rfl); (case hg => rfl); (case hr => first | (go_simp; done) | (go_simp; rfl)); intro sS hg w4 aV hb; have ay := am (bP (by repeat (first | (with_reducible first | exact HB.out | apply bA | apply pN | apply au) | exact HB.out)) hb); have aA := am (aV); have aK := am ((by rw [hg]; exact (bZ (by repeat (first | (with_reducible first | exact HB.out | apply bA | apply pN | apply au) | exact HB.out))) : w.heap.size ≤ sS)); have aU := am ((by rw [hg]; exact (bZ (by repeat (first | (with_reducible first | exact HB.out | apply bA | apply pN | apply au) | exact HB.out))) : w.heap.size ≤ sS)); clear HB; have HB := ay; have aW := aA; have Sj := aK; have sU := aU; clear ay aA aK aU; clear hb aV hg; have := cz aW.out 0 rfl; have := cz aW.out 1 rfl; have := cz aW.out 2 rfl; have := cz aW.out 3 rfl; have := cz aW.out 4 rfl; have := cz aW.out 5 rfl; have := cz aW.out 6 rfl; have := cz aW.out 7 rfl; have := cz aW.out 8 rfl; have := cz aW.out 9 rfl; have := cz aW.out 10 rfl; have := cz aW.out 11 rfl; have := cz aW.out 12 rfl; have := fz aW.out 0; have := fz aW.out 1; have := fz aW.out 2; have := fz aW.out 3; have := fz aW.out 4; have := fz aW.out 5; have := fz aW.out 6; have := fz aW.out 7; have := fz aW.out 8; have := fz aW.out 9; have := fz aW.out 10; have := fz aW.out 11; have := fz aW.out 12) | ((with_reducible refine bY (f := 45) rfl ?_); refine b_ (some 10) rfl rfl Tryz.func45 (by kernel_rfl) rfl #[.agg #[.int .i64 gU, .int .i64 gV, .string gW, .bool gX, .bool gY]] rfl (by (try simp only [List.map_toArray, List.map_cons, List.map_nil]); first | done | rfl | (simp only [List.length_drop, List.length_take]; rfl)) ?_; (with_reducible refine (yV.calls k gU gV gW gX gY t266 _ A3.out).mono ?_); rintro e w6 ⟨rfl, hb⟩; refine ⟨_, rfl, ?_⟩; have ay := am (kB (g := sS) (o := .cells #[.int .i64 ah, .int .i64 av, .string aG, .bool aJ, .bool aI, .int .i64 fI, .bool jT, .string je, .int .i64 gU, .int .i64 gV, .string gW, .bool gX, .bool gY] 31 (0, 0)) (by (with_reducible repeat (first | apply kN | apply kD | apply kA)); exact aW.out) hb); have aA := am (bP (by repeat (first | (with_reducible first | exact HB.out | apply bA | apply pN | apply au | refine bS ?_ sU.out) | exact HB.out)) hb); clear aW; clear HB; have aW := ay; have HB := aA; clear ay aA; (try clear hb); (try clear hb2); (try clear hk); (try clear hi)))
  go_ret
  exact ⟨by first | rfl | (simp [aQ, aR] <;> rfl) | (simp [*, aQ, aR] <;> rfl), by repeat (first | (with_reducible first | exact HB.out | apply bA | apply pN | apply au | refine bS ?_ sU.out) | exact HB.out)⟩
 ·rw [if_neg c2] at H
  have iN : (ah == 4) = false := beq_eq_false_iff_ne.mpr c2
  have nM : (ah != 4) = true := bne_iff_ne.mpr c2
  by_cases c7 : jT = true
  ·subst c7
   have H1 : (some (⟨#[110, 117, 108, 108]⟩ : ByteArray)) = some r := by rw [if_pos rfl] at H; exact H
   clear H
   have H := H1
   clear H1
   obtain rfl := Option.some.inj H
   go_enter Tryz.func22, Tryz.ntmps22
   go_wp2_with (first | ((with_reducible refine cK (N := 1) rfl ?_); refine cO ?hg (N := 1) ?hd (cs := #[.int .i64 ah, .int .i64 av, .string aG, .bool aJ, .bool aI, .int .i64 fI, .bool true, .string je, .int .i64 gU, .int .i64 gV, .string gW, .bool gX, .bool gY]) (t := 31) ?hr ?_; (case hd => rfl); (case hg => rfl); (case hr => first | (go_simp; done) | (go_simp; rfl)); intro sS hg w8 aV hb; have ay := am (bP (by repeat (first | (with_reducible first | exact HB.out | apply bA | apply pN | apply au) | exact HB.out)) hb); have aA := am (aV); have aK := am ((by rw [hg]; exact (bZ (by repeat (first | (with_reducible first | exact HB.out | apply bA | apply pN | apply au) | exact HB.out))) : w.heap.size ≤ sS)); have aU := am ((by rw [hg]; exact (bZ (by repeat (first | (with_reducible first | exact HB.out | apply bA | apply pN | apply au) | exact HB.out))) : w.heap.size ≤ sS)); clear HB; have HB := ay; have aW := aA; have Sj := aK; have sU := aU; clear ay aA aK aU; clear hb aV hg; have := cz aW.out 0 rfl; have := cz aW.out 1 rfl; have := cz aW.out 2 rfl; have := cz aW.out 3 rfl; have := cz aW.out 4 rfl; have := cz aW.out 5 rfl; have := cz aW.out 6 rfl; have := cz aW.out 7 rfl; have := cz aW.out 8 rfl; have := cz aW.out 9 rfl; have := cz aW.out 10 rfl; have := cz aW.out 11 rfl; have := cz aW.out 12 rfl; have := fz aW.out 0; have := fz aW.out 1; have := fz aW.out 2; have := fz aW.out 3; have := fz aW.out 4; have := fz aW.out 5; have := fz aW.out 6; have := fz aW.out 7; have := fz aW.out 8; have := fz aW.out 9; have := fz aW.out 10; have := fz aW.out 11; have := fz aW.out 12))
   go_ret
   exact ⟨by first | rfl | (simp [aQ, aR] <;> rfl) | (simp [*, aQ, aR] <;> rfl), by repeat (first | (with_reducible first | exact HB.out | apply bA | apply pN | apply au | refine bS ?_ sU.out) | exact HB.out)⟩
  ·replace c7 := Bool.eq_false_iff.mpr c7
   subst c7
   have H1 : (if ah = 1 then (jF.j0 k (!aJ) ah av aG aJ aI fI false je gU gV gW gX gY) else (jF.j0 k false ah av aG aJ aI fI false je gU gV gW gX gY)) = some r := by rw [if_neg (show ¬ (false = true) by decide)] at H; exact H
   clear H
   have H := H1
   clear H1
   have LV := am H
   clear H
   go_enter Tryz.func22, Tryz.ntmps22
   go_upto_region 5 with (first | ((with_reducible refine cK (N := 1) rfl ?_); refine cO ?hg (N := 1) ?hd (cs := #[.int .i64 ah, .int .i64 av, .string aG, .bool aJ, .bool aI, .int .i64 fI, .bool false, .string je, .int .i64 gU, .int .i64 gV, .string gW, .bool gX, .bool gY]) (t := 31) ?hr ?_; (case hd => rfl); (case hg => rfl); (case hr => first | (go_simp; done) | (go_simp; rfl)); intro sS hg sP aV hb; have ay := am (bP (by repeat (first | (with_reducible first | exact HB.out | apply bA | apply pN | apply au) | exact HB.out)) hb); have aA := am (aV); have aK := am ((by rw [hg]; exact (bZ (by repeat (first | (with_reducible first | exact HB.out | apply bA | apply pN | apply au) | exact HB.out))) : w.heap.size ≤ sS)); have aU := am ((by rw [hg]; exact (bZ (by repeat (first | (with_reducible first | exact HB.out | apply bA | apply pN | apply au) | exact HB.out))) : w.heap.size ≤ sS)); clear HB; have HB := ay; have aW := aA; have Sj := aK; have sU := aU; clear ay aA aK aU; clear hb aV hg; have := cz aW.out 0 rfl; have := cz aW.out 1 rfl; have := cz aW.out 2 rfl; have := cz aW.out 3 rfl; have := cz aW.out 4 rfl; have := cz aW.out 5 rfl; have := cz aW.out 6 rfl; have := cz aW.out 7 rfl; have := cz aW.out 8 rfl; have := cz aW.out 9 rfl; have := cz aW.out 10 rfl; have := cz aW.out 11 rfl; have := cz aW.out 12 rfl; have := fz aW.out 0; have := fz aW.out 1; have := fz aW.out 2; have := fz aW.out 3; have := fz aW.out 4; have := fz aW.out 5; have := fz aW.out 6; have := fz aW.out 7; have := fz aW.out 8; have := fz aW.out 9; have := fz aW.out 10; have := fz aW.out 11; have := fz aW.out 12))
   (try simp only [Act.put, List.setIfInBounds_toArray, List.set_cons_zero, List.set_cons_succ])
   go_cut [14] (fun v14 wc => ∃ (kq : Nat) (Hf : Bool), v14 = .bool Hf ∧ bI (jF.j0 kq Hf ah av aG aJ aI fI false je gU gV gW gX gY = some r) ∧ bI (kq ≤ k) ∧ bI (wc.heap[sS]? = some (.cells #[.int .i64 ah, .int .i64 av, .string aG, .bool aJ, .bool aI, .int .i64 fI, .bool false, .string je, .int .i64 gU, .int .i64 gV, .string gW, .bool gX, .bool gY] 31 (0, 0))) ∧ bI (Below w.heap.size w wc))
   case first =>
    have H := LV.out
    clear LV
    by_cases c13 : ah = 1
    ·rw [if_pos c13] at H
     have kY : (ah == 1) = true := beq_iff_eq.mpr c13
     have zH : (ah != 1) = false := bne_eq_false_iff_eq.mpr c13
     clear c13
     (first | rw [kY] | (simp only [dS, eZ]; rw [kY]) | skip)
     have H' := am H
     clear H
     have := cz aW.out 0 rfl
     have := cz aW.out 1 rfl
     have := cz aW.out 2 rfl
     have := cz aW.out 3 rfl
     have := cz aW.out 4 rfl
     have := cz aW.out 5 rfl
     have := cz aW.out 6 rfl
     have := cz aW.out 7 rfl
     have := cz aW.out 8 rfl
     have := cz aW.out 9 rfl
     have := cz aW.out 10 rfl
     have := cz aW.out 11 rfl
     have := cz aW.out 12 rfl
     have := fz aW.out 0
     have := fz aW.out 1
     have := fz aW.out 2
     have := fz aW.out 3
     have := fz aW.out 4
     have := fz aW.out 5
     have := fz aW.out 6
     have := fz aW.out 7
     have := fz aW.out 8
     have := fz aW.out 9
     have := fz aW.out 10
     have := fz aW.out 11
     have := fz aW.out 12
     go_wp2
     go_meet
     case rel => exact ⟨_, (!aJ), (by first | rfl | (simp; done) | (simp [*]; done)), H', ⟨by first | omega | exact Nat.le_refl _⟩, ⟨by (with_reducible repeat (first | apply kN | apply kD | apply kA)); exact aW.out⟩, ⟨by repeat (first | (with_reducible first | exact HB.out | apply bA | apply pN | apply au | refine bS ?_ sU.out) | exact HB.out)⟩⟩
    ·rw [if_neg c13] at H
     have kY : (ah == 1) = false := beq_eq_false_iff_ne.mpr c13
     have zH : (ah != 1) = true := bne_iff_ne.mpr c13
     (first | rw [kY] | (simp only [dS, eZ]; rw [kY]) | skip)
     have H' := am H
     clear H
     have := cz aW.out 0 rfl
     have := cz aW.out 1 rfl
     have := cz aW.out 2 rfl
     have := cz aW.out 3 rfl
     have := cz aW.out 4 rfl
     have := cz aW.out 5 rfl
     have := cz aW.out 6 rfl
     have := cz aW.out 7 rfl
     have := cz aW.out 8 rfl
     have := cz aW.out 9 rfl
     have := cz aW.out 10 rfl
     have := cz aW.out 11 rfl
     have := cz aW.out 12 rfl
     have := fz aW.out 0
     have := fz aW.out 1
     have := fz aW.out 2
     have := fz aW.out 3
     have := fz aW.out 4
     have := fz aW.out 5
     have := fz aW.out 6
     have := fz aW.out 7
     have := fz aW.out 8
     have := fz aW.out 9
     have := fz aW.out 10
     have := fz aW.out 11
     have := fz aW.out 12
     go_wp2
     go_meet
     case rel => exact ⟨_, (false), (by first | rfl | (simp; done) | (simp [*]; done)), H', ⟨by first | omega | exact Nat.le_refl _⟩, ⟨by (with_reducible repeat (first | apply kN | apply kD | apply kA)); exact aW.out⟩, ⟨by repeat (first | (with_reducible first | exact HB.out | apply bA | apply pN | apply au | refine bS ?_ sU.out) | exact HB.out)⟩⟩
   case rest =>
    clear LV
    try clear c1
    try clear c2
    try clear iN
    try clear nM
    try clear p2
    try clear c4
    try clear c7
    try clear c13
    try clear kY
    try clear zH
    try clear zh
    try clear zi
    try clear apI
    try clear apJ
    try clear apK
    try clear zk
    try clear zl
    try clear zm
    try clear apL
    try clear apM
    try clear apN
    try clear apO
    try clear apP
    try clear BS
    try clear BU
    try clear ac8
    try clear ac9
    try clear ac_
    try clear BX
    try clear BZ
    try clear B_
    try clear ada
    try clear adb
    try clear ade
    try clear adf
    try clear adg
    try clear Sk
    try clear Sl
    try clear apQ
    try clear apR
    try clear apS
    try clear Sm
    try clear Sn
    try clear Sq
    try clear apT
    try clear apU
    try clear apV
    try clear apW
    try clear apX
    try clear adh
    try clear adi
    try clear apY
    try clear apZ
    try clear ap0
    try clear adj
    try clear adk
    try clear adl
    try clear ap1
    try clear ap2
    try clear ap3
    try clear ap4
    try clear ap5
    try clear ap6
    try clear ap7
    try clear ap8
    try clear ap9
    try clear ap_
    try clear aqa
    try clear aqb
    try clear aqc
    try clear aqd
    try clear aqe
    try clear aqf
    try clear aqg
    try clear aqh
    try clear zn
    try clear zo
    try clear aqi
    try clear aqj
    try clear aqk
    try clear zq
    try clear zu
    try clear zw
    try clear aql
    try clear aqm
    try clear aqn
    try clear aqo
    try clear aqp
    try clear Ca
    try clear Cb
    try clear adn
    try clear ado
    try clear adp
    try clear Cc
    try clear Ce
    try clear Cg
    try clear adq
    try clear adr
    try clear ads
    try clear adt
    try clear adu
    try clear Sr
    try clear Sv
    try clear aqr
    try clear aqs
    try clear aqt
    try clear Sw
    try clear Sy
    try clear Sz
    try clear aqu
    try clear aqv
    try clear aqw
    try clear aqx
    try clear aqy
    try clear adv
    try clear adw
    try clear aqz
    try clear aqA
    try clear aqB
    try clear adx
    try clear ady
    try clear adz
    try clear aqC
    try clear aqD
    try clear aqE
    try clear aqF
    try clear aqG
    try clear aqH
    try clear aqI
    try clear aqJ
    try clear aqK
    try clear aqL
    try clear aqM
    try clear aqN
    try clear aqO
    try clear aqP
    try clear aqQ
    try clear aqR
    try clear aqS
    try clear aqT
    obtain ⟨kq, Hf, rfl, HA, HJ9, aW, HB⟩ := hcut
    cases kq with
    | zero => exact absurd HA.out (by simp [jF.j0])
    | succ SA =>
     have H := HA.out
     clear HA
     simp only [jF.j0] at H
     by_cases c16 : Hf = true
     ·subst c16
      have H1 : (if fI = 1 then (some (⟨#[116, 114, 117, 101]⟩ : ByteArray)) else (some (⟨#[102, 97, 108, 115, 101]⟩ : ByteArray))) = some r := by rw [if_pos rfl] at H; exact H
      clear H
      have H := H1
      clear H1
      by_cases c17 : fI = 1
      ·rw [if_pos c17] at H
       have yZ : (fI == 1) = true := beq_iff_eq.mpr c17
       have DJ : (fI != 1) = false := bne_eq_false_iff_eq.mpr c17
       clear c17
       obtain rfl := Option.some.inj H
       have := cz aW.out 0 rfl
       have := cz aW.out 1 rfl
       have := cz aW.out 2 rfl
       have := cz aW.out 3 rfl
       have := cz aW.out 4 rfl
       have := cz aW.out 5 rfl
       have := cz aW.out 6 rfl
       have := cz aW.out 7 rfl
       have := cz aW.out 8 rfl
       have := cz aW.out 9 rfl
       have := cz aW.out 10 rfl
       have := cz aW.out 11 rfl
       have := cz aW.out 12 rfl
       have := fz aW.out 0
       have := fz aW.out 1
       have := fz aW.out 2
       have := fz aW.out 3
       have := fz aW.out 4
       have := fz aW.out 5
       have := fz aW.out 6
       have := fz aW.out 7
       have := fz aW.out 8
       have := fz aW.out 9
       have := fz aW.out 10
       have := fz aW.out 11
       have := fz aW.out 12
       go_wp2
       go_ret
       exact ⟨by first | rfl | (simp [aQ, aR] <;> rfl) | (simp [*, aQ, aR] <;> rfl), by repeat (first | (with_reducible first | exact HB.out | apply bA | apply pN | apply au | refine bS ?_ sU.out) | exact HB.out)⟩
      ·rw [if_neg c17] at H
       have yZ : (fI == 1) = false := beq_eq_false_iff_ne.mpr c17
       have DJ : (fI != 1) = true := bne_iff_ne.mpr c17
       obtain rfl := Option.some.inj H
       have := cz aW.out 0 rfl
       have := cz aW.out 1 rfl
       have := cz aW.out 2 rfl
       have := cz aW.out 3 rfl
       have := cz aW.out 4 rfl
       have := cz aW.out 5 rfl
       have := cz aW.out 6 rfl
       have := cz aW.out 7 rfl
       have := cz aW.out 8 rfl
       have := cz aW.out 9 rfl
       have := cz aW.out 10 rfl
       have := cz aW.out 11 rfl
       have := cz aW.out 12 rfl
       have := fz aW.out 0
       have := fz aW.out 1
       have := fz aW.out 2
       have := fz aW.out 3
       have := fz aW.out 4
       have := fz aW.out 5
       have := fz aW.out 6
       have := fz aW.out 7
       have := fz aW.out 8
       have := fz aW.out 9
       have := fz aW.out 10
       have := fz aW.out 11
       have := fz aW.out 12
       go_wp2
       go_ret
       exact ⟨by first | rfl | (simp [aQ, aR] <;> rfl) | (simp [*, aQ, aR] <;> rfl), by repeat (first | (with_reducible first | exact HB.out | apply bA | apply pN | apply au | refine bS ?_ sU.out) | exact HB.out)⟩
     ·replace c16 := Bool.eq_false_iff.mpr c16
      subst c16
      have H1 : ((jS.f SA fI).bind fun t267 => (some t267)) = some r := by rw [if_neg (show ¬ (false = true) by decide)] at H; exact H
      clear H
      have H := H1
      clear H1
      replace H := Option.bind_eq_some_iff.mp H
      obtain ⟨t267, xu, H⟩ := H
      replace H : (some t267) = some r := H
      have f_ := am xu
      clear xu
      obtain rfl := Option.some.inj H
      have := cz aW.out 0 rfl
      have := cz aW.out 1 rfl
      have := cz aW.out 2 rfl
      have := cz aW.out 3 rfl
      have := cz aW.out 4 rfl
      have := cz aW.out 5 rfl
      have := cz aW.out 6 rfl
      have := cz aW.out 7 rfl
      have := cz aW.out 8 rfl
      have := cz aW.out 9 rfl
      have := cz aW.out 10 rfl
      have := cz aW.out 11 rfl
      have := cz aW.out 12 rfl
      have := fz aW.out 0
      have := fz aW.out 1
      have := fz aW.out 2
      have := fz aW.out 3
      have := fz aW.out 4
      have := fz aW.out 5
      have := fz aW.out 6
      have := fz aW.out 7
      have := fz aW.out 8
      have := fz aW.out 9
      have := fz aW.out 10
      have := fz aW.out 11
      have := fz aW.out 12
      go_wp2_with (first | ((with_reducible refine bY (f := 46) rfl ?_); refine b_ (some 30) rfl rfl Tryz.func46 (by kernel_rfl) rfl #[.int .i64 fI] rfl (by (try simp only [List.map_toArray, List.map_cons, List.map_nil]); first | done | rfl | (simp only [List.length_drop, List.length_take]; rfl)) ?_; (with_reducible refine (jS.calls SA fI t267 _ f_.out).mono ?_); rintro e w' ⟨rfl, ⟨nd, rfl⟩⟩; refine ⟨_, rfl, ?_⟩))
      go_ret
      exact ⟨by first | rfl | (simp [aQ, aR] <;> rfl) | (simp [*, aQ, aR] <;> rfl), by repeat (first | (with_reducible first | exact HB.out | apply bA | apply pN | apply au | refine bS ?_ sU.out) | exact HB.out)⟩
noncomputable def kI.l0 : Nat → List (eP) → ByteArray → Int → Option (ByteArray)
 | 0, _, _, _ => none
 | k + 1, x1, x5, x6 => if x6 < (x1.length : Int) then (if x6 > 0 then (if x5.size + 1 ≤ 9223372036854775807 then (if 0 ≤ x6 then ((jF.f k ((ak x1 x6).f0.f0) ((ak x1 x6).f0.f1) ((ak x1 x6).f0.f2) ((ak x1 x6).f0.f3) ((ak x1 x6).f0.f4) ((ak x1 x6).f1) ((ak x1 x6).f2) ((ak x1 x6).f3) ((ak x1 x6).f4.f0) ((ak x1 x6).f4.f1) ((ak x1 x6).f4.f2) ((ak x1 x6).f4.f3) ((ak x1 x6).f4.f4)).bind fun t269 => (if x5.size + 1 + t269.size ≤ 9223372036854775807 then (kI.l0 k x1 ((x5 ++ (⟨#[44]⟩ : ByteArray)) ++ t269) (wrap64 (x6 + 1))) else (none))) else (none)) else (none)) else (if 0 ≤ x6 then ((jF.f k ((ak x1 x6).f0.f0) ((ak x1 x6).f0.f1) ((ak x1 x6).f0.f2) ((ak x1 x6).f0.f3) ((ak x1 x6).f0.f4) ((ak x1 x6).f1) ((ak x1 x6).f2) ((ak x1 x6).f3) ((ak x1 x6).f4.f0) ((ak x1 x6).f4.f1) ((ak x1 x6).f4.f2) ((ak x1 x6).f4.f3) ((ak x1 x6).f4.f4)).bind fun t271 => (if x5.size + t271.size ≤ 9223372036854775807 then (kI.l0 k x1 (x5 ++ t271) (wrap64 (x6 + 1))) else (none))) else (none))) else (if x5.size + 1 ≤ 9223372036854775807 then (some (x5 ++ (⟨#[41]⟩ : ByteArray))) else (none))
noncomputable def kI.f (k : Nat) (a0 : ByteArray) (l1 : List (eP)) : Option (ByteArray) := if a0.size + 1 ≤ 9223372036854775807 then (kI.l0 k l1 (a0 ++ (⟨#[40]⟩ : ByteArray)) 0) else (none)
theorem kI.calls (k : Nat) (a0 : ByteArray) (A1 : Option Addr) (c1 : Nat) (l1 : List (eP)) (r : ByteArray) (w : World) (hr1 : Kd.C uw w A1 l1.length l1) (hc1 : l1.length ≤ c1) (h : kI.f k a0 l1 = some r) :
 Calls Tryz.prog 10 #[.string a0, .slice A1 l1.length c1] w fun e w' => e = .returned (.string r) ∧ Below w.heap.size w w' := by
 have wW := Tryz.underlying31
 have HR1 := am hr1
 have o9 := am hc1
 clear hr1 hc1
 have HB := am (Below.refl w.heap.size w)
 have H : (if a0.size + 1 ≤ 9223372036854775807 then (kI.l0 k l1 (a0 ++ (⟨#[40]⟩ : ByteArray)) 0) else (none)) = some r := h
 clear h
 by_cases c3 : a0.size + 1 ≤ 9223372036854775807
 ·rw [if_pos c3] at H
  have gH := eq_true c3
  have uN : decide (a0.size + 1 ≤ 9223372036854775807) = true := decide_eq_true c3
  try have adA : (9223372036854775807 < a0.size + 1) = False := eq_false (Nat.not_lt.2 c3)
  have H' := am H
  clear H
  go_enter Tryz.func10, Tryz.ntmps10
  go_wp2
  go_loopg [5, 6] k (fun kq v5 v6 w' => ∃ (dw : ByteArray) (aH : Int), v5 = .string dw ∧ v6 = .int .i64 aH ∧ bI (kI.l0 kq l1 dw aH = some r) ∧ bI (kq ≤ k) ∧ bI (Below w.heap.size w w'))
  case atStart => exact ⟨(a0 ++ (⟨#[40]⟩ : ByteArray)), (0), (by first | rfl | (simp; done) | (simp [*]; done)), (by first | rfl | (simp; done) | (simp [*]; done)), H', ⟨Nat.le_refl _⟩, ⟨by repeat (first | (with_reducible first | exact HB.out | apply bA | apply pN | apply au) | exact HB.out)⟩⟩
  case round =>
   clear H'
   try clear c1
   try clear p2
   try clear c3
   try clear gH
   try clear uN
   try clear adA
   obtain ⟨dw, aH, rfl, rfl, HA, eu, HB⟩ := hrel
   cases gk with
   | zero => exact absurd HA.out (by simp [kI.l0])
   | succ k1 =>
    have H := HA.out
    clear HA
    simp only [kI.l0] at H
    by_cases c4 : aH < (l1.length : Int)
    ·rw [if_pos c4] at H
     have fJ : decide (aH < (l1.length : Int)) = true := decide_eq_true c4
     clear c4
     by_cases c5 : aH > 0
     ·rw [if_pos c5] at H
      have g_ : decide (0 < aH) = true := decide_eq_true c5
      clear c5
      by_cases c6 : dw.size + 1 ≤ 9223372036854775807
      ·rw [if_pos c6] at H
       have gT := eq_true c6
       have mP : decide (dw.size + 1 ≤ 9223372036854775807) = true := decide_eq_true c6
       try have Sc : (9223372036854775807 < dw.size + 1) = False := eq_false (Nat.not_lt.2 c6)
       by_cases c7 : 0 ≤ aH
       ·rw [if_pos c7] at H
        have iB : decide (0 ≤ aH) = true := decide_eq_true c7
        clear c7
        replace H := Option.bind_eq_some_iff.mp H
        obtain ⟨t269, Ei, H⟩ := H
        replace H : (if dw.size + 1 + t269.size ≤ 9223372036854775807 then (kI.l0 k1 l1 ((dw ++ (⟨#[44]⟩ : ByteArray)) ++ t269) (wrap64 (aH + 1))) else (none)) = some r := H
        have A8 := am Ei
        clear Ei
        by_cases c9 : dw.size + 1 + t269.size ≤ 9223372036854775807
        ·rw [if_pos c9] at H
         have Ck := eq_true c9
         have Hg : decide (dw.size + 1 + t269.size ≤ 9223372036854775807) = true := decide_eq_true c9
         try have aqV : (9223372036854775807 < dw.size + 1 + t269.size) = False := eq_false (Nat.not_lt.2 c9)
         have H' := am H
         clear H
         have LW : 0 ≤ (aH : Int) := of_decide_eq_true (by first | (with_reducible assumption) | assumption)
         have LX : aH < (l1.length : Int) := of_decide_eq_true (by first | (with_reducible assumption) | assumption)
         obtain ⟨aqW, e268, LY, LZ, L6, L8, L9, L_, Ma, Mc, Md, Me, Mf, Mg, Mh⟩ := uy HR1.out aH LW LX
         cases e268
         replace LY := (HB.out.cell (World.block_lt_of_cell? w _ LY)).trans LY
         replace LZ := (HB.out.cell (World.block_lt_of_cell? w _ LZ)).trans LZ
         replace L6 := (HB.out.cell (World.block_lt_of_cell? w _ L6)).trans L6
         replace L8 := (HB.out.cell (World.block_lt_of_cell? w _ L8)).trans L8
         replace L9 := (HB.out.cell (World.block_lt_of_cell? w _ L9)).trans L9
         replace L_ := (HB.out.cell (World.block_lt_of_cell? w _ L_)).trans L_
         replace Ma := (HB.out.cell (World.block_lt_of_cell? w _ Ma)).trans Ma
         replace Mc := (HB.out.cell (World.block_lt_of_cell? w _ Mc)).trans Mc
         replace Md := (HB.out.cell (World.block_lt_of_cell? w _ Md)).trans Md
         replace Me := (HB.out.cell (World.block_lt_of_cell? w _ Me)).trans Me
         replace Mf := (HB.out.cell (World.block_lt_of_cell? w _ Mf)).trans Mf
         replace Mg := (HB.out.cell (World.block_lt_of_cell? w _ Mg)).trans Mg
         replace Mh := (HB.out.cell (World.block_lt_of_cell? w _ Mh)).trans Mh
         replace LW := eq_true LW
         replace LX := eq_true LX
         go_wp2_with (first | ((with_reducible refine bY (f := 22) rfl ?_); refine b_ (some 24) rfl rfl Tryz.func22 (by kernel_rfl) rfl #[.agg #[.int .i64 ((ak l1 aH).f0.f0), .int .i64 ((ak l1 aH).f0.f1), .string ((ak l1 aH).f0.f2), .bool ((ak l1 aH).f0.f3), .bool ((ak l1 aH).f0.f4), .int .i64 ((ak l1 aH).f1), .bool ((ak l1 aH).f2), .string ((ak l1 aH).f3), .int .i64 ((ak l1 aH).f4.f0), .int .i64 ((ak l1 aH).f4.f1), .string ((ak l1 aH).f4.f2), .bool ((ak l1 aH).f4.f3), .bool ((ak l1 aH).f4.f4)]] rfl (by (try simp only [List.map_toArray, List.map_cons, List.map_nil]); first | done | rfl | (simp only [List.length_drop, List.length_take]; rfl)) ?_; (with_reducible refine (jF.calls k1 ((ak l1 aH).f0.f0) ((ak l1 aH).f0.f1) ((ak l1 aH).f0.f2) ((ak l1 aH).f0.f3) ((ak l1 aH).f0.f4) ((ak l1 aH).f1) ((ak l1 aH).f2) ((ak l1 aH).f3) ((ak l1 aH).f4.f0) ((ak l1 aH).f4.f1) ((ak l1 aH).f4.f2) ((ak l1 aH).f4.f3) ((ak l1 aH).f4.f4) t269 _ A8.out).mono ?_); rintro e o7 ⟨rfl, hb⟩; refine ⟨_, rfl, ?_⟩; have ay := am (bP (by repeat (first | (with_reducible first | exact HB.out | apply bA | apply pN | apply au) | exact HB.out)) hb); clear HB; have HB := ay; clear ay; (try clear hb); (try clear hb2); (try clear hk); (try clear hi)))
         go_roundg k1
         case measure => have := eu.out; omega
         case rel => exact ⟨((dw ++ (⟨#[44]⟩ : ByteArray)) ++ t269), (wrap64 (aH + 1)), (by first | rfl | (simp; done) | (simp [*]; done)), (by first | rfl | (simp; done) | (simp [*]; done)), H', ⟨by have := eu.out; omega⟩, ⟨by repeat (first | (with_reducible first | exact HB.out | apply bA | apply pN | apply au) | exact HB.out)⟩⟩
        ·rw [if_neg c9] at H
         exact absurd H (by simp)
       ·rw [if_neg c7] at H
        exact absurd H (by simp)
      ·rw [if_neg c6] at H
       exact absurd H (by simp)
     ·rw [if_neg c5] at H
      have g_ : decide (0 < aH) = false := decide_eq_false c5
      clear c5
      by_cases c11 : 0 ≤ aH
      ·rw [if_pos c11] at H
       have og : decide (0 ≤ aH) = true := decide_eq_true c11
       clear c11
       replace H := Option.bind_eq_some_iff.mp H
       obtain ⟨t271, qy, H⟩ := H
       replace H : (if dw.size + t271.size ≤ 9223372036854775807 then (kI.l0 k1 l1 (dw ++ t271) (wrap64 (aH + 1))) else (none)) = some r := H
       have lN := am qy
       clear qy
       by_cases c13 : dw.size + t271.size ≤ 9223372036854775807
       ·rw [if_pos c13] at H
        have kY := eq_true c13
        have zH : decide (dw.size + t271.size ≤ 9223372036854775807) = true := decide_eq_true c13
        try have adB : (9223372036854775807 < dw.size + t271.size) = False := eq_false (Nat.not_lt.2 c13)
        have H' := am H
        clear H
        have Mi : 0 ≤ (aH : Int) := of_decide_eq_true (by first | (with_reducible assumption) | assumption)
        have Mj : aH < (l1.length : Int) := of_decide_eq_true (by first | (with_reducible assumption) | assumption)
        obtain ⟨aqX, e270, Mk, Ml, Mq, Mr, Ms, Mt, Mv, Mw, Mx, MB, MC, ME, MF⟩ := uy HR1.out aH Mi Mj
        cases e270
        replace Mk := (HB.out.cell (World.block_lt_of_cell? w _ Mk)).trans Mk
        replace Ml := (HB.out.cell (World.block_lt_of_cell? w _ Ml)).trans Ml
        replace Mq := (HB.out.cell (World.block_lt_of_cell? w _ Mq)).trans Mq
        replace Mr := (HB.out.cell (World.block_lt_of_cell? w _ Mr)).trans Mr
        replace Ms := (HB.out.cell (World.block_lt_of_cell? w _ Ms)).trans Ms
        replace Mt := (HB.out.cell (World.block_lt_of_cell? w _ Mt)).trans Mt
        replace Mv := (HB.out.cell (World.block_lt_of_cell? w _ Mv)).trans Mv
        replace Mw := (HB.out.cell (World.block_lt_of_cell? w _ Mw)).trans Mw
        replace Mx := (HB.out.cell (World.block_lt_of_cell? w _ Mx)).trans Mx
        replace MB := (HB.out.cell (World.block_lt_of_cell? w _ MB)).trans MB
        replace MC := (HB.out.cell (World.block_lt_of_cell? w _ MC)).trans MC
        replace ME := (HB.out.cell (World.block_lt_of_cell? w _ ME)).trans ME
        replace MF := (HB.out.cell (World.block_lt_of_cell? w _ MF)).trans MF
        replace Mi := eq_true Mi
        replace Mj := eq_true Mj
        go_wp2_with (first | ((with_reducible refine bY (f := 22) rfl ?_); refine b_ (some 24) rfl rfl Tryz.func22 (by kernel_rfl) rfl #[.agg #[.int .i64 ((ak l1 aH).f0.f0), .int .i64 ((ak l1 aH).f0.f1), .string ((ak l1 aH).f0.f2), .bool ((ak l1 aH).f0.f3), .bool ((ak l1 aH).f0.f4), .int .i64 ((ak l1 aH).f1), .bool ((ak l1 aH).f2), .string ((ak l1 aH).f3), .int .i64 ((ak l1 aH).f4.f0), .int .i64 ((ak l1 aH).f4.f1), .string ((ak l1 aH).f4.f2), .bool ((ak l1 aH).f4.f3), .bool ((ak l1 aH).f4.f4)]] rfl (by (try simp only [List.map_toArray, List.map_cons, List.map_nil]); first | done | rfl | (simp only [List.length_drop, List.length_take]; rfl)) ?_; (with_reducible refine (jF.calls k1 ((ak l1 aH).f0.f0) ((ak l1 aH).f0.f1) ((ak l1 aH).f0.f2) ((ak l1 aH).f0.f3) ((ak l1 aH).f0.f4) ((ak l1 aH).f1) ((ak l1 aH).f2) ((ak l1 aH).f3) ((ak l1 aH).f4.f0) ((ak l1 aH).f4.f1) ((ak l1 aH).f4.f2) ((ak l1 aH).f4.f3) ((ak l1 aH).f4.f4) t271 _ lN.out).mono ?_); rintro e y9 ⟨rfl, hb⟩; refine ⟨_, rfl, ?_⟩; have ay := am (bP (by repeat (first | (with_reducible first | exact HB.out | apply bA | apply pN | apply au) | exact HB.out)) hb); clear HB; have HB := ay; clear ay; (try clear hb); (try clear hb2); (try clear hk); (try clear hi)))
        go_roundg k1
        case measure => have := eu.out; omega
        case rel => exact ⟨(dw ++ t271), (wrap64 (aH + 1)), (by first | rfl | (simp; done) | (simp [*]; done)), (by first | rfl | (simp; done) | (simp [*]; done)), H', ⟨by have := eu.out; omega⟩, ⟨by repeat (first | (with_reducible first | exact HB.out | apply bA | apply pN | apply au) | exact HB.out)⟩⟩
       ·rw [if_neg c13] at H
        exact absurd H (by simp)
      ·rw [if_neg c11] at H
       exact absurd H (by simp)
    ·rw [if_neg c4] at H
     have fJ : decide (aH < (l1.length : Int)) = false := decide_eq_false c4
     clear c4
     by_cases c15 : dw.size + 1 ≤ 9223372036854775807
     ·rw [if_pos c15] at H
      have sV := eq_true c15
      have xw : decide (dw.size + 1 ≤ 9223372036854775807) = true := decide_eq_true c15
      try have adC : (9223372036854775807 < dw.size + 1) = False := eq_false (Nat.not_lt.2 c15)
      obtain rfl := Option.some.inj H
      go_wp2
      go_ret
      exact ⟨by first | rfl | (simp [aQ, aR] <;> rfl) | (simp [*, aQ, aR] <;> rfl), by repeat (first | (with_reducible first | exact HB.out | apply bA | apply pN | apply au) | exact HB.out)⟩
     ·rw [if_neg c15] at H
      exact absurd H (by simp)
 ·rw [if_neg c3] at H
  exact absurd H (by simp)
end Go.Proofs.YtgliaoanlhbepaaGreatDoor.Q
