/- Walks, printed by a program of this session: what each function of the law computes. -/
import Derived.Test.YtgliaoanlhbepaaGreatDoorQ0
import Derived.Test.YtgliaoanlhbepaaGreatDoorQ1
import Derived.Test.YtgliaoanlhbepaaGreatDoorQ6
namespace Go.Proofs.YtgliaoanlhbepaaGreatDoor.Q
open Go.RowKit Go.Proofs.bT.eG Go.Proofs.bT.iM Go.Proofs.bT.jd
open Go.Proofs.bT.eG renaming lF → pN, lZ → au, l6 → bA, mZ → bS, m_ → bZ, ng → bP, ni → kN, nk → kD, nu → kA, ny → fz, nA → kB, lH → kL
attribute [local go_sem] nC nD nE nG nH nI nJ nK
set_option maxHeartbeats 8000000
set_option maxRecDepth 100000
set_option linter.unusedVariables false
set_option linter.unusedSimpArgs false
attribute [local go_sem high] Le
noncomputable def BO.f (k : Nat) (ah : Int) (av : Int) (aG : ByteArray) (aJ : Bool) (aI : Bool) (fI : Int) (jT : Bool) (je : ByteArray) (gU : Int) (gV : Int) (gW : ByteArray) (gX : Bool) (gY : Bool) : Option (ByteArray) := if ah = 4 then ((iH.f k gU gV gW gX gY).bind fun Nf => (some Nf.1)) else (if jT = true then (some (⟨#[110, 117, 108, 108]⟩ : ByteArray)) else (if (gu ah 1 av 0 aG (⟨#[]⟩ : ByteArray) aJ false aI false) = true then ((Cu.f (fI == 1)).bind fun t166 => (some t166)) else ((strconv_Itoa.f fI).bind fun t167 => (some t167))))
theorem BO.calls (k : Nat) (ah : Int) (av : Int) (aG : ByteArray) (aJ : Bool) (aI : Bool) (fI : Int) (jT : Bool) (je : ByteArray) (gU : Int) (gV : Int) (gW : ByteArray) (gX : Bool) (gY : Bool) (r : ByteArray) (w : World) (HT0 : Go.Proofs.fM.jv w) (h : BO.f k ah av aG aJ aI fI jT je gU gV gW gX gY = some r) :
 Calls Tryz.prog 16 #[.agg #[.int .i64 ah, .int .i64 av, .string aG, .bool aJ, .bool aI, .int .i64 fI, .bool jT, .string je, .int .i64 gU, .int .i64 gV, .string gW, .bool gX, .bool gY]] w fun e w' => e = .returned (.string r) ∧ Below w.heap.size w w' := by
 have wW := Tryz.underlying31
 have lI := Tryz.underlying29
 have HB := am (Below.refl w.heap.size w)
 have HT := am HT0
 clear HT0
 have H : (if ah = 4 then ((iH.f k gU gV gW gX gY).bind fun Nf => (some Nf.1)) else (if jT = true then (some (⟨#[110, 117, 108, 108]⟩ : ByteArray)) else (if (gu ah 1 av 0 aG (⟨#[]⟩ : ByteArray) aJ false aI false) = true then ((Cu.f (fI == 1)).bind fun t166 => (some t166)) else ((strconv_Itoa.f fI).bind fun t167 => (some t167))))) = some r := h
 clear h
 by_cases c2 : ah = 4
 ·rw [if_pos c2] at H
  have iN : (ah == 4) = true := beq_iff_eq.mpr c2
  have nM : (ah != 4) = false := bne_eq_false_iff_eq.mpr c2
  clear c2
  replace H := Option.bind_eq_some_iff.mp H
  obtain ⟨⟨t164, t165⟩, fH, H⟩ := H
  replace H : (some t164) = some r := H
  have A3 := am fH
  clear fH
  obtain rfl := Option.some.inj H
  go_enter Tryz.func16, Tryz.ntmps16
  go_wp2_with (first | ((with_reducible refine cK (N := 1) rfl ?_); refine cO ?hg (N := 1) ?hd (cs := #[.int .i64 ah, .int .i64 av, .string aG, .bool aJ, .bool aI, .int .i64 fI, .bool jT, .string je, .int .i64 gU, .int .i64 gV, .string gW, .bool gX, .bool gY]) (t := 31) ?hr ?_; (case hd => rfl); (case hg => rfl); (case hr => first | (go_simp; done) | (go_simp; rfl)); intro oD hg w4 aV hb; have ay := am (bP (by repeat (first | (with_reducible first | exact HB.out | apply bA | apply pN | apply au) | exact HB.out)) hb); have aA := am (aV); have aK := am ((by rw [hg]; exact (bZ (by repeat (first | (with_reducible first | exact HB.out | apply bA | apply pN | apply au) | exact HB.out))) : w.heap.size ≤ oD)); have aU := am ((by rw [hg]; exact (bZ (by repeat (first | (with_reducible first | exact HB.out | apply bA | apply pN | apply au) | exact HB.out))) : w.heap.size ≤ oD)); clear HB; have HB := ay; have bO := aA; have Ng := aK; have rM := aU; clear ay aA aK aU; clear hb aV hg; have := cz bO.out 0 rfl; have := cz bO.out 1 rfl; have := cz bO.out 2 rfl; have := cz bO.out 3 rfl; have := cz bO.out 4 rfl; have := cz bO.out 5 rfl; have := cz bO.out 6 rfl; have := cz bO.out 7 rfl; have := cz bO.out 8 rfl; have := cz bO.out 9 rfl; have := cz bO.out 10 rfl; have := cz bO.out 11 rfl; have := cz bO.out 12 rfl; have := fz bO.out 0; have := fz bO.out 1; have := fz bO.out 2; have := fz bO.out 3; have := fz bO.out 4; have := fz bO.out 5; have := fz bO.out 6; have := fz bO.out 7; have := fz bO.out 8; have := fz bO.out 9; have := fz bO.out 10; have := fz bO.out 11; have := fz bO.out 12) | ((with_reducible refine bY (f := 36) rfl ?_); refine b_ (some 13) rfl rfl Tryz.func36 (by kernel_rfl) rfl #[.agg #[.int .i64 gU, .int .i64 gV, .string gW, .bool gX, .bool gY]] rfl (by (try simp only [List.map_toArray, List.map_cons, List.map_nil]); first | done | rfl | (simp only [List.length_drop, List.length_take]; rfl)) ?_; (with_reducible refine (iH.calls k gU gV gW gX gY t164 t165 _ ?dB A3.out).mono ?_); (case dB => exact HT.out.below (by repeat (first | (with_reducible first | exact HB.out | apply bA | apply pN | apply au | refine bS ?_ rM.out) | exact HB.out))); rintro e w6 ⟨rfl, hb⟩; refine ⟨_, rfl, ?_⟩; have ay := am (kB (g := oD) (o := .cells #[.int .i64 ah, .int .i64 av, .string aG, .bool aJ, .bool aI, .int .i64 fI, .bool jT, .string je, .int .i64 gU, .int .i64 gV, .string gW, .bool gX, .bool gY] 31 (0, 0)) (by (with_reducible repeat (first | apply kN | apply kD | apply kA)); exact bO.out) hb); have aA := am (bP (by repeat (first | (with_reducible first | exact HB.out | apply bA | apply pN | apply au | refine bS ?_ rM.out) | exact HB.out)) hb); clear bO; clear HB; have bO := ay; have HB := aA; clear ay aA; (try clear hb); (try clear hb2); (try clear hk); (try clear hi)))
  go_ret
  exact ⟨by first | rfl | (simp [aQ, aR] <;> rfl) | (simp [*, aQ, aR] <;> rfl), by repeat (first | (with_reducible first | exact HB.out | apply bA | apply pN | apply au | refine bS ?_ rM.out) | exact HB.out)⟩
 ·rw [if_neg c2] at H
  have iN : (ah == 4) = false := beq_eq_false_iff_ne.mpr c2
  have nM : (ah != 4) = true := bne_iff_ne.mpr c2
  by_cases c7 : jT = true
  ·subst c7
   have H1 : (some (⟨#[110, 117, 108, 108]⟩ : ByteArray)) = some r := by rw [if_pos rfl] at H; exact H
   clear H
   have H := H1
   clear H1
   obtain rfl := Option.some.inj H
   go_enter Tryz.func16, Tryz.ntmps16
   go_wp2_with (first | ((with_reducible refine cK (N := 1) rfl ?_); refine cO ?hg (N := 1) ?hd (cs := #[.int .i64 ah, .int .i64 av, .string aG, .bool aJ, .bool aI, .int .i64 fI, .bool true, .string je, .int .i64 gU, .int .i64 gV, .string gW, .bool gX, .bool gY]) (t := 31) ?hr ?_; (case hd => rfl); (case hg => rfl); (case hr => first | (go_simp; done) | (go_simp; rfl)); intro oD hg w8 aV hb; have ay := am (bP (by repeat (first | (with_reducible first | exact HB.out | apply bA | apply pN | apply au) | exact HB.out)) hb); have aA := am (aV); have aK := am ((by rw [hg]; exact (bZ (by repeat (first | (with_reducible first | exact HB.out | apply bA | apply pN | apply au) | exact HB.out))) : w.heap.size ≤ oD)); have aU := am ((by rw [hg]; exact (bZ (by repeat (first | (with_reducible first | exact HB.out | apply bA | apply pN | apply au) | exact HB.out))) : w.heap.size ≤ oD)); clear HB; have HB := ay; have bO := aA; have Ng := aK; have rM := aU; clear ay aA aK aU; clear hb aV hg; have := cz bO.out 0 rfl; have := cz bO.out 1 rfl; have := cz bO.out 2 rfl; have := cz bO.out 3 rfl; have := cz bO.out 4 rfl; have := cz bO.out 5 rfl; have := cz bO.out 6 rfl; have := cz bO.out 7 rfl; have := cz bO.out 8 rfl; have := cz bO.out 9 rfl; have := cz bO.out 10 rfl; have := cz bO.out 11 rfl; have := cz bO.out 12 rfl; have := fz bO.out 0; have := fz bO.out 1; have := fz bO.out 2; have := fz bO.out 3; have := fz bO.out 4; have := fz bO.out 5; have := fz bO.out 6; have := fz bO.out 7; have := fz bO.out 8; have := fz bO.out 9; have := fz bO.out 10; have := fz bO.out 11; have := fz bO.out 12))
   go_ret
   exact ⟨by first | rfl | (simp [aQ, aR] <;> rfl) | (simp [*, aQ, aR] <;> rfl), by repeat (first | (with_reducible first | exact HB.out | apply bA | apply pN | apply au | refine bS ?_ rM.out) | exact HB.out)⟩
  ·replace c7 := Bool.eq_false_iff.mpr c7
   subst c7
   have H1 : (if (gu ah 1 av 0 aG (⟨#[]⟩ : ByteArray) aJ false aI false) = true then ((Cu.f (fI == 1)).bind fun t166 => (some t166)) else ((strconv_Itoa.f fI).bind fun t167 => (some t167))) = some r := by rw [if_neg (show ¬ (false = true) by decide)] at H; exact H
   clear H
   have H := H1
   clear H1
   by_cases c10 : (gu ah 1 av 0 aG (⟨#[]⟩ : ByteArray) aJ false aI false) = true
   ·rw [if_pos c10] at H
    have zT : (gu ah 1 av 0 aG (⟨#[]⟩ : ByteArray) aJ false aI false) = true := c10
    clear c10
    replace H := Option.bind_eq_some_iff.mp H
    obtain ⟨t166, xA, H⟩ := H
    replace H : (some t166) = some r := H
    have zM := am xA
    clear xA
    obtain rfl := Option.some.inj H
    go_enter Tryz.func16, Tryz.ntmps16
    go_wp2_with (first | ((with_reducible refine cK (N := 1) rfl ?_); refine cO ?hg (N := 1) ?hd (cs := #[.int .i64 ah, .int .i64 av, .string aG, .bool aJ, .bool aI, .int .i64 fI, .bool false, .string je, .int .i64 gU, .int .i64 gV, .string gW, .bool gX, .bool gY]) (t := 31) ?hr ?_; (case hd => rfl); (case hg => rfl); (case hr => first | (go_simp; done) | (go_simp; rfl)); intro oD hg uE aV hb; have ay := am (bP (by repeat (first | (with_reducible first | exact HB.out | apply bA | apply pN | apply au) | exact HB.out)) hb); have aA := am (aV); have aK := am ((by rw [hg]; exact (bZ (by repeat (first | (with_reducible first | exact HB.out | apply bA | apply pN | apply au) | exact HB.out))) : w.heap.size ≤ oD)); have aU := am ((by rw [hg]; exact (bZ (by repeat (first | (with_reducible first | exact HB.out | apply bA | apply pN | apply au) | exact HB.out))) : w.heap.size ≤ oD)); clear HB; have HB := ay; have bO := aA; have Ng := aK; have rM := aU; clear ay aA aK aU; clear hb aV hg; have := cz bO.out 0 rfl; have := cz bO.out 1 rfl; have := cz bO.out 2 rfl; have := cz bO.out 3 rfl; have := cz bO.out 4 rfl; have := cz bO.out 5 rfl; have := cz bO.out 6 rfl; have := cz bO.out 7 rfl; have := cz bO.out 8 rfl; have := cz bO.out 9 rfl; have := cz bO.out 10 rfl; have := cz bO.out 11 rfl; have := cz bO.out 12 rfl; have := fz bO.out 0; have := fz bO.out 1; have := fz bO.out 2; have := fz bO.out 3; have := fz bO.out 4; have := fz bO.out 5; have := fz bO.out 6; have := fz bO.out 7; have := fz bO.out 8; have := fz bO.out 9; have := fz bO.out 10; have := fz bO.out 11; have := fz bO.out 12) | ((with_reducible refine bY (f := 37) rfl ?_); refine b_ (some 28) rfl rfl Tryz.func37 (by kernel_rfl) rfl #[.bool (fI == 1)] rfl (by (try simp only [List.map_toArray, List.map_cons, List.map_nil]); first | done | rfl | (simp only [List.length_drop, List.length_take]; rfl)) ?_; (with_reducible refine (Cu.calls (fI == 1) t166 _ zM.out).mono ?_); rintro e w' ⟨rfl, ⟨nd, rfl⟩⟩; refine ⟨_, rfl, ?_⟩))
    go_ret
    exact ⟨by first | rfl | (simp [aQ, aR] <;> rfl) | (simp [*, aQ, aR] <;> rfl), by repeat (first | (with_reducible first | exact HB.out | apply bA | apply pN | apply au | refine bS ?_ rM.out) | exact HB.out)⟩
   ·rw [if_neg c10] at H
    have zT : (gu ah 1 av 0 aG (⟨#[]⟩ : ByteArray) aJ false aI false) = false := by simpa using c10
    clear c10
    replace H := Option.bind_eq_some_iff.mp H
    obtain ⟨t167, xg, H⟩ := H
    replace H : (some t167) = some r := H
    have Ee := am xg
    clear xg
    obtain rfl := Option.some.inj H
    go_enter Tryz.func16, Tryz.ntmps16
    go_wp2_with (first | ((with_reducible refine cK (N := 1) rfl ?_); refine cO ?hg (N := 1) ?hd (cs := #[.int .i64 ah, .int .i64 av, .string aG, .bool aJ, .bool aI, .int .i64 fI, .bool false, .string je, .int .i64 gU, .int .i64 gV, .string gW, .bool gX, .bool gY]) (t := 31) ?hr ?_; (case hd => rfl); (case hg => rfl); (case hr => first | (go_simp; done) | (go_simp; rfl)); intro oD hg yY aV hb; have ay := am (bP (by repeat (first | (with_reducible first | exact HB.out | apply bA | apply pN | apply au) | exact HB.out)) hb); have aA := am (aV); have aK := am ((by rw [hg]; exact (bZ (by repeat (first | (with_reducible first | exact HB.out | apply bA | apply pN | apply au) | exact HB.out))) : w.heap.size ≤ oD)); have aU := am ((by rw [hg]; exact (bZ (by repeat (first | (with_reducible first | exact HB.out | apply bA | apply pN | apply au) | exact HB.out))) : w.heap.size ≤ oD)); clear HB; have HB := ay; have bO := aA; have Ng := aK; have rM := aU; clear ay aA aK aU; clear hb aV hg; have := cz bO.out 0 rfl; have := cz bO.out 1 rfl; have := cz bO.out 2 rfl; have := cz bO.out 3 rfl; have := cz bO.out 4 rfl; have := cz bO.out 5 rfl; have := cz bO.out 6 rfl; have := cz bO.out 7 rfl; have := cz bO.out 8 rfl; have := cz bO.out 9 rfl; have := cz bO.out 10 rfl; have := cz bO.out 11 rfl; have := cz bO.out 12 rfl; have := fz bO.out 0; have := fz bO.out 1; have := fz bO.out 2; have := fz bO.out 3; have := fz bO.out 4; have := fz bO.out 5; have := fz bO.out 6; have := fz bO.out 7; have := fz bO.out 8; have := fz bO.out 9; have := fz bO.out 10; have := fz bO.out 11; have := fz bO.out 12) | ((with_reducible refine bY (f := 38) rfl ?_); refine b_ (some 31) rfl rfl Tryz.func38 (by kernel_rfl) rfl #[.int .i64 fI] rfl (by (try simp only [List.map_toArray, List.map_cons, List.map_nil]); first | done | rfl | (simp only [List.length_drop, List.length_take]; rfl)) ?_; (with_reducible refine (strconv_Itoa.calls fI t167 _ ?dB Ee.out).mono ?_); (case dB => exact HT.out.below (by repeat (first | (with_reducible first | exact HB.out | apply bA | apply pN | apply au | refine bS ?_ rM.out) | exact HB.out))); rintro e TK ⟨rfl, hb⟩; refine ⟨_, rfl, ?_⟩; have ay := am (kB (g := oD) (o := .cells #[.int .i64 ah, .int .i64 av, .string aG, .bool aJ, .bool aI, .int .i64 fI, .bool false, .string je, .int .i64 gU, .int .i64 gV, .string gW, .bool gX, .bool gY] 31 (0, 0)) (by (with_reducible repeat (first | apply kN | apply kD | apply kA)); exact bO.out) hb); have aA := am (bP (by repeat (first | (with_reducible first | exact HB.out | apply bA | apply pN | apply au | refine bS ?_ rM.out) | exact HB.out)) hb); clear bO; clear HB; have bO := ay; have HB := aA; clear ay aA; (try clear hb); (try clear hb2); (try clear hk); (try clear hi)))
    go_ret
    exact ⟨by first | rfl | (simp [aQ, aR] <;> rfl) | (simp [*, aQ, aR] <;> rfl), by repeat (first | (with_reducible first | exact HB.out | apply bA | apply pN | apply au | refine bS ?_ rM.out) | exact HB.out)⟩
noncomputable def strings_Join.f (l0 : List ByteArray) (a1 : ByteArray) : Option ByteArray := if l0.length ≤ 140737488355328 then (if (Go.Lib.join (l0.map (·.data.toList)) a1.data.toList).length ≤ 140737488355328 then some ⟨(Go.Lib.join (l0.map (·.data.toList)) a1.data.toList).toArray⟩ else none) else none
theorem strings_Join.calls (A0 : Option Addr) (c0 : Nat) (l0 : List ByteArray) (a1 : ByteArray) (r : ByteArray) (w : World) (hr0 : Kd.C Kd.string w A0 l0.length l0) (hc0 : l0.length ≤ c0) (h : strings_Join.f l0 a1 = some r) :
 Calls Tryz.prog 17 #[.slice A0 l0.length c0, .string a1] w fun e w' => e = .returned (.string r) ∧ Below w.heap.size w w' := by
 unfold strings_Join.f at h
 split at h
 case isFalse => cases h
 split at h
 case isFalse => cases h
 rename_i h0 h1
 obtain rfl := Option.some.inj h
 exact Go.Proofs.fM.YE A0 c0 l0 a1 w hr0 hc0 h0 h1
noncomputable def lG.l0 : Nat → ByteArray → List ByteArray → List (eP) → Int → Int → Option (ByteArray)
 | 0, _, _, _, _, _ => none
 | k + 1, x0, x5, x8, x9, x10 => if x10 < x9 then (if 0 ≤ x10 then (if x10 < (x8.length : Int) then ((BO.f k ((ak x8 x10).f0.f0) ((ak x8 x10).f0.f1) ((ak x8 x10).f0.f2) ((ak x8 x10).f0.f3) ((ak x8 x10).f0.f4) ((ak x8 x10).f1) ((ak x8 x10).f2) ((ak x8 x10).f3) ((ak x8 x10).f4.f0) ((ak x8 x10).f4.f1) ((ak x8 x10).f4.f2) ((ak x8 x10).f4.f3) ((ak x8 x10).f4.f4)).bind fun t170 => (if x5.length < 8796093022208 then (lG.l0 k x0 (x5 ++ [t170]) x8 x9 (wrap64 (x10 + 1))) else (none))) else (none)) else (none)) else (if x0.size + 1 ≤ 9223372036854775807 then ((strings_Join.f x5 (⟨#[44]⟩ : ByteArray)).bind fun t174 => (if x0.size + 1 + t174.size ≤ 9223372036854775807 then (if x0.size + 1 + t174.size + 1 ≤ 9223372036854775807 then (some (((x0 ++ (⟨#[40]⟩ : ByteArray)) ++ t174) ++ (⟨#[41]⟩ : ByteArray))) else (none)) else (none))) else (none))
noncomputable def lG.f (k : Nat) (a0 : ByteArray) (l1 : List (eP)) : Option (ByteArray) := lG.l0 k a0 ([] : List ByteArray) l1 (l1.length : Int) 0
theorem lG.calls (k : Nat) (a0 : ByteArray) (A1 : Option Addr) (c1 : Nat) (l1 : List (eP)) (r : ByteArray) (w : World) (hr1 : Kd.C uw w A1 l1.length l1) (hc1 : l1.length ≤ c1) (HT0 : Go.Proofs.fM.jv w) (h : lG.f k a0 l1 = some r) :
 Calls Tryz.prog 8 #[.string a0, .slice A1 l1.length c1] w fun e w' => e = .returned (.string r) ∧ Below w.heap.size w w' := by
 have wW := Tryz.underlying31
 have HR1 := am hr1
 have o9 := am hc1
 clear hr1 hc1
 have HB := am (Below.refl w.heap.size w)
 have HT := am HT0
 clear HT0
 have H : (lG.l0 k a0 ([] : List ByteArray) l1 (l1.length : Int) 0) = some r := h
 clear h
 have H' := am H
 clear H
 go_enter Tryz.func8, Tryz.ntmps8
 go_wp2
 go_loopg [5, 10] k (fun kq v5 v10 w' => ∃ (dw : List ByteArray) (aD : Int), v10 = .int .i64 aD ∧ bI (lG.l0 kq a0 dw l1 (l1.length : Int) aD = some r) ∧ bI (kq ≤ k) ∧ bI (Kd.R Kd.string 9 w' w.heap.size (fun _ => True) v5 dw) ∧ bI (Below w.heap.size w w'))
 case atStart => exact ⟨(([] : List ByteArray)), (0), (by first | rfl | (simp; done) | (simp [*]; done)), H', ⟨Nat.le_refl _⟩, ⟨by first | exact Kd.Nh _ _ _ _ _ | exact Kd.TL _ _ _ _ _ | exact Kd.TM _ _ _ _ _ | exact Kd.TP _ _ _ _ _ | exact Kd.TQ _ _ _ _ _⟩, ⟨by repeat (first | (with_reducible first | exact HB.out | apply bA | apply pN | apply au) | exact HB.out)⟩⟩
 case round =>
  clear H'
  try clear c1
  try clear p2
  obtain ⟨dw, aD, rfl, HA, eu, iI, HB⟩ := hrel
  cases gk with
  | zero => exact absurd HA.out (by simp [lG.l0])
  | succ k1 =>
   have H := HA.out
   clear HA
   simp only [lG.l0] at H
   by_cases c3 : aD < (l1.length : Int)
   ·rw [if_pos c3] at H
    have gH : decide (aD < (l1.length : Int)) = true := decide_eq_true c3
    clear c3
    by_cases c4 : 0 ≤ aD
    ·rw [if_pos c4] at H
     have fJ : decide (0 ≤ aD) = true := decide_eq_true c4
     clear c4
     by_cases c5 : aD < (l1.length : Int)
     ·rw [if_pos c5] at H
      have g_ : decide (aD < (l1.length : Int)) = true := decide_eq_true c5
      clear c5
      replace H := Option.bind_eq_some_iff.mp H
      obtain ⟨t170, lM, H⟩ := H
      replace H : (if dw.length < 8796093022208 then (lG.l0 k1 a0 (dw ++ [t170]) l1 (l1.length : Int) (wrap64 (aD + 1))) else (none)) = some r := H
      have A6 := am lM
      clear lM
      by_cases c7 : dw.length < 8796093022208
      ·rw [if_pos c7] at H
       have ae_ := am c7
       clear c7
       obtain ⟨TR, EL⟩ : ∃ y_ : List ByteArray, y_ = (dw ++ [t170]) := ⟨_, rfl⟩
       replace H : (lG.l0 k1 a0 TR l1 (l1.length : Int) (wrap64 (aD + 1))) = some r := by first | (rw [EL]; with_reducible exact H) | (have mU := (Option.bind_some _ _).symm.trans H; rw [EL]; with_reducible exact mU) | (have mU := (Option.bind_some _ _).symm.trans H; with_reducible exact mU) | with_reducible exact H | (rw [EL]; exact H) | exact H
       have afa := am EL
       clear EL
       have H' := am H
       clear H
       have Ni : 0 ≤ (aD : Int) := of_decide_eq_true (by first | (with_reducible assumption) | assumption)
       have Nj : aD < (l1.length : Int) := of_decide_eq_true (by first | (with_reducible assumption) | assumption)
       obtain ⟨aug, e168, Nk, Nl, Nn, Np, Nq, Nr, Ns, Nt, Nu, Nv, Nw, Ny, Nz⟩ := uy HR1.out aD Ni Nj
       cases e168
       replace Nk := (HB.out.cell (World.block_lt_of_cell? w _ Nk)).trans Nk
       replace Nl := (HB.out.cell (World.block_lt_of_cell? w _ Nl)).trans Nl
       replace Nn := (HB.out.cell (World.block_lt_of_cell? w _ Nn)).trans Nn
       replace Np := (HB.out.cell (World.block_lt_of_cell? w _ Np)).trans Np
       replace Nq := (HB.out.cell (World.block_lt_of_cell? w _ Nq)).trans Nq
       replace Nr := (HB.out.cell (World.block_lt_of_cell? w _ Nr)).trans Nr
       replace Ns := (HB.out.cell (World.block_lt_of_cell? w _ Ns)).trans Ns
       replace Nt := (HB.out.cell (World.block_lt_of_cell? w _ Nt)).trans Nt
       replace Nu := (HB.out.cell (World.block_lt_of_cell? w _ Nu)).trans Nu
       replace Nv := (HB.out.cell (World.block_lt_of_cell? w _ Nv)).trans Nv
       replace Nw := (HB.out.cell (World.block_lt_of_cell? w _ Nw)).trans Nw
       replace Ny := (HB.out.cell (World.block_lt_of_cell? w _ Ny)).trans Ny
       replace Nz := (HB.out.cell (World.block_lt_of_cell? w _ Nz)).trans Nz
       replace Ni := eq_true Ni
       replace Nj := eq_true Nj
       go_wp2_with (first | ((with_reducible refine cK (N := 7) rfl ?_); refine cO ?hg (N := 7) ?hd (cs := #[.int .i64 0, .int .i64 0, .string (⟨#[]⟩ : ByteArray), .bool false, .bool false, .int .i64 0, .bool false, .string (⟨#[]⟩ : ByteArray), .int .i64 0, .int .i64 0, .string (⟨#[]⟩ : ByteArray), .bool false, .bool false]) (t := 31) ?hr ?_; (case hd => rfl); (case hg => rfl); (case hr => first | (go_simp; done) | (go_simp; rfl)); intro lQ hg w8 aV hb; have ay := am (Kd.Cv (by (with_reducible repeat (first | apply Kd.kK | apply Kd.ku | apply Kd.kM)); exact iI.out) hb); have aA := am (bP (by repeat (first | (with_reducible first | exact HB.out | apply bA | apply pN | apply au) | exact HB.out)) hb); have aK := am (aV); have aU := am ((by rw [hg]; exact (bZ (by repeat (first | (with_reducible first | exact HB.out | apply bA | apply pN | apply au) | exact HB.out))) : w.heap.size ≤ lQ)); have dZ := am ((by rw [hg]; exact (bZ (by repeat (first | (with_reducible first | exact HB.out | apply bA | apply pN | apply au) | exact HB.out))) : w.heap.size ≤ lQ)); clear iI; clear HB; have iI := ay; have HB := aA; have gN := aK; have auh := aU; have EM := dZ; clear ay aA aK aU dZ; clear hb aV hg; have := cz gN.out 0 rfl; have := cz gN.out 1 rfl; have := cz gN.out 2 rfl; have := cz gN.out 3 rfl; have := cz gN.out 4 rfl; have := cz gN.out 5 rfl; have := cz gN.out 6 rfl; have := cz gN.out 7 rfl; have := cz gN.out 8 rfl; have := cz gN.out 9 rfl; have := cz gN.out 10 rfl; have := cz gN.out 11 rfl; have := cz gN.out 12 rfl; have := fz gN.out 0; have := fz gN.out 1; have := fz gN.out 2; have := fz gN.out 3; have := fz gN.out 4; have := fz gN.out 5; have := fz gN.out 6; have := fz gN.out 7; have := fz gN.out 8; have := fz gN.out 9; have := fz gN.out 10; have := fz gN.out 11; have := fz gN.out 12) | ((with_reducible refine bY (f := 16) rfl ?_); refine b_ (some 16) rfl rfl Tryz.func16 (by kernel_rfl) rfl #[.agg #[.int .i64 ((ak l1 aD).f0.f0), .int .i64 ((ak l1 aD).f0.f1), .string ((ak l1 aD).f0.f2), .bool ((ak l1 aD).f0.f3), .bool ((ak l1 aD).f0.f4), .int .i64 ((ak l1 aD).f1), .bool ((ak l1 aD).f2), .string ((ak l1 aD).f3), .int .i64 ((ak l1 aD).f4.f0), .int .i64 ((ak l1 aD).f4.f1), .string ((ak l1 aD).f4.f2), .bool ((ak l1 aD).f4.f3), .bool ((ak l1 aD).f4.f4)]] rfl (by (try simp only [List.map_toArray, List.map_cons, List.map_nil]); first | done | rfl | (simp only [List.length_drop, List.length_take]; rfl)) ?_; (with_reducible refine (BO.calls k1 ((ak l1 aD).f0.f0) ((ak l1 aD).f0.f1) ((ak l1 aD).f0.f2) ((ak l1 aD).f0.f3) ((ak l1 aD).f0.f4) ((ak l1 aD).f1) ((ak l1 aD).f2) ((ak l1 aD).f3) ((ak l1 aD).f4.f0) ((ak l1 aD).f4.f1) ((ak l1 aD).f4.f2) ((ak l1 aD).f4.f3) ((ak l1 aD).f4.f4) t170 _ ?dB A6.out).mono ?_); (case dB => exact HT.out.below (by repeat (first | (with_reducible first | exact HB.out | apply bA | apply pN | apply au | refine bS ?_ EM.out) | exact HB.out))); rintro e o7 ⟨rfl, hb⟩; refine ⟨_, rfl, ?_⟩; have ay := am (Kd.Cv (by (with_reducible repeat (first | apply Kd.kK | apply Kd.ku | apply Kd.kM)); exact (Kd.NA (Kd.oF (p := ⟨lQ, 12, none⟩) (Kd.oF (p := ⟨lQ, 11, none⟩) (Kd.oF (p := ⟨lQ, 10, none⟩) (Kd.oF (p := ⟨lQ, 9, none⟩) (Kd.oF (p := ⟨lQ, 8, none⟩) (Kd.oF (p := ⟨lQ, 7, none⟩) (Kd.oF (p := ⟨lQ, 6, none⟩) (Kd.oF (p := ⟨lQ, 5, none⟩) (Kd.oF (p := ⟨lQ, 4, none⟩) (Kd.oF (p := ⟨lQ, 3, none⟩) (Kd.oF (p := ⟨lQ, 2, none⟩) (Kd.oF (p := ⟨lQ, 1, none⟩) (Kd.oF (p := ⟨lQ, 0, none⟩) (Kd.afb iI.out gN.out (by decide)) (fun _ hk => hk.2) (.int .i64 ((ak l1 aD).f0.f0))) (fun _ hk => hk.2) (.int .i64 ((ak l1 aD).f0.f1))) (fun _ hk => hk.2) (.string ((ak l1 aD).f0.f2))) (fun _ hk => hk.2) (.bool ((ak l1 aD).f0.f3))) (fun _ hk => hk.2) (.bool ((ak l1 aD).f0.f4))) (fun _ hk => hk.2) (.int .i64 ((ak l1 aD).f1))) (fun _ hk => hk.2) (.bool ((ak l1 aD).f2))) (fun _ hk => hk.2) (.string ((ak l1 aD).f3))) (fun _ hk => hk.2) (.int .i64 ((ak l1 aD).f4.f0))) (fun _ hk => hk.2) (.int .i64 ((ak l1 aD).f4.f1))) (fun _ hk => hk.2) (.string ((ak l1 aD).f4.f2))) (fun _ hk => hk.2) (.bool ((ak l1 aD).f4.f3))) (fun _ hk => hk.2) (.bool ((ak l1 aD).f4.f4))) (fun _ h_ => h_.1))) hb); have aA := am (kB (g := lQ) (o := .cells #[.int .i64 ((ak l1 aD).f0.f0), .int .i64 ((ak l1 aD).f0.f1), .string ((ak l1 aD).f0.f2), .bool ((ak l1 aD).f0.f3), .bool ((ak l1 aD).f0.f4), .int .i64 ((ak l1 aD).f1), .bool ((ak l1 aD).f2), .string ((ak l1 aD).f3), .int .i64 ((ak l1 aD).f4.f0), .int .i64 ((ak l1 aD).f4.f1), .string ((ak l1 aD).f4.f2), .bool ((ak l1 aD).f4.f3), .bool ((ak l1 aD).f4.f4)] 31 (0, 0)) (by (with_reducible repeat (first | apply kN | apply kD | apply kA)); refine bX (cs := #[.int .i64 ((ak l1 aD).f0.f0), .int .i64 ((ak l1 aD).f0.f1), .string ((ak l1 aD).f0.f2), .bool ((ak l1 aD).f0.f3), .bool ((ak l1 aD).f0.f4), .int .i64 ((ak l1 aD).f1), .bool ((ak l1 aD).f2), .string ((ak l1 aD).f3), .int .i64 ((ak l1 aD).f4.f0), .int .i64 ((ak l1 aD).f4.f1), .string ((ak l1 aD).f4.f2), .bool ((ak l1 aD).f4.f3), .bool false]) ?_ 12 _ rfl; (with_reducible repeat (first | apply kN | apply kD | apply kA)); refine bX (cs := #[.int .i64 ((ak l1 aD).f0.f0), .int .i64 ((ak l1 aD).f0.f1), .string ((ak l1 aD).f0.f2), .bool ((ak l1 aD).f0.f3), .bool ((ak l1 aD).f0.f4), .int .i64 ((ak l1 aD).f1), .bool ((ak l1 aD).f2), .string ((ak l1 aD).f3), .int .i64 ((ak l1 aD).f4.f0), .int .i64 ((ak l1 aD).f4.f1), .string ((ak l1 aD).f4.f2), .bool false, .bool false]) ?_ 11 _ rfl; (with_reducible repeat (first | apply kN | apply kD | apply kA)); refine bX (cs := #[.int .i64 ((ak l1 aD).f0.f0), .int .i64 ((ak l1 aD).f0.f1), .string ((ak l1 aD).f0.f2), .bool ((ak l1 aD).f0.f3), .bool ((ak l1 aD).f0.f4), .int .i64 ((ak l1 aD).f1), .bool ((ak l1 aD).f2), .string ((ak l1 aD).f3), .int .i64 ((ak l1 aD).f4.f0), .int .i64 ((ak l1 aD).f4.f1), .string (⟨#[]⟩ : ByteArray), .bool false, .bool false]) ?_ 10 _ rfl; (with_reducible repeat (first | apply kN | apply kD | apply kA)); refine bX (cs := #[.int .i64 ((ak l1 aD).f0.f0), .int .i64 ((ak l1 aD).f0.f1), .string ((ak l1 aD).f0.f2), .bool ((ak l1 aD).f0.f3), .bool ((ak l1 aD).f0.f4), .int .i64 ((ak l1 aD).f1), .bool ((ak l1 aD).f2), .string ((ak l1 aD).f3), .int .i64 ((ak l1 aD).f4.f0), .int .i64 0, .string (⟨#[]⟩ : ByteArray), .bool false, .bool false]) ?_ 9 _ rfl; (with_reducible repeat (first | apply kN | apply kD | apply kA)); refine bX (cs := #[.int .i64 ((ak l1 aD).f0.f0), .int .i64 ((ak l1 aD).f0.f1), .string ((ak l1 aD).f0.f2), .bool ((ak l1 aD).f0.f3), .bool ((ak l1 aD).f0.f4), .int .i64 ((ak l1 aD).f1), .bool ((ak l1 aD).f2), .string ((ak l1 aD).f3), .int .i64 0, .int .i64 0, .string (⟨#[]⟩ : ByteArray), .bool false, .bool false]) ?_ 8 _ rfl; (with_reducible repeat (first | apply kN | apply kD | apply kA)); refine bX (cs := #[.int .i64 ((ak l1 aD).f0.f0), .int .i64 ((ak l1 aD).f0.f1), .string ((ak l1 aD).f0.f2), .bool ((ak l1 aD).f0.f3), .bool ((ak l1 aD).f0.f4), .int .i64 ((ak l1 aD).f1), .bool ((ak l1 aD).f2), .string (⟨#[]⟩ : ByteArray), .int .i64 0, .int .i64 0, .string (⟨#[]⟩ : ByteArray), .bool false, .bool false]) ?_ 7 _ rfl; (with_reducible repeat (first | apply kN | apply kD | apply kA)); refine bX (cs := #[.int .i64 ((ak l1 aD).f0.f0), .int .i64 ((ak l1 aD).f0.f1), .string ((ak l1 aD).f0.f2), .bool ((ak l1 aD).f0.f3), .bool ((ak l1 aD).f0.f4), .int .i64 ((ak l1 aD).f1), .bool false, .string (⟨#[]⟩ : ByteArray), .int .i64 0, .int .i64 0, .string (⟨#[]⟩ : ByteArray), .bool false, .bool false]) ?_ 6 _ rfl; (with_reducible repeat (first | apply kN | apply kD | apply kA)); refine bX (cs := #[.int .i64 ((ak l1 aD).f0.f0), .int .i64 ((ak l1 aD).f0.f1), .string ((ak l1 aD).f0.f2), .bool ((ak l1 aD).f0.f3), .bool ((ak l1 aD).f0.f4), .int .i64 0, .bool false, .string (⟨#[]⟩ : ByteArray), .int .i64 0, .int .i64 0, .string (⟨#[]⟩ : ByteArray), .bool false, .bool false]) ?_ 5 _ rfl; (with_reducible repeat (first | apply kN | apply kD | apply kA)); refine bX (cs := #[.int .i64 ((ak l1 aD).f0.f0), .int .i64 ((ak l1 aD).f0.f1), .string ((ak l1 aD).f0.f2), .bool ((ak l1 aD).f0.f3), .bool false, .int .i64 0, .bool false, .string (⟨#[]⟩ : ByteArray), .int .i64 0, .int .i64 0, .string (⟨#[]⟩ : ByteArray), .bool false, .bool false]) ?_ 4 _ rfl; (with_reducible repeat (first | apply kN | apply kD | apply kA)); refine bX (cs := #[.int .i64 ((ak l1 aD).f0.f0), .int .i64 ((ak l1 aD).f0.f1), .string ((ak l1 aD).f0.f2), .bool false, .bool false, .int .i64 0, .bool false, .string (⟨#[]⟩ : ByteArray), .int .i64 0, .int .i64 0, .string (⟨#[]⟩ : ByteArray), .bool false, .bool false]) ?_ 3 _ rfl; (with_reducible repeat (first | apply kN | apply kD | apply kA)); refine bX (cs := #[.int .i64 ((ak l1 aD).f0.f0), .int .i64 ((ak l1 aD).f0.f1), .string (⟨#[]⟩ : ByteArray), .bool false, .bool false, .int .i64 0, .bool false, .string (⟨#[]⟩ : ByteArray), .int .i64 0, .int .i64 0, .string (⟨#[]⟩ : ByteArray), .bool false, .bool false]) ?_ 2 _ rfl; (with_reducible repeat (first | apply kN | apply kD | apply kA)); refine bX (cs := #[.int .i64 ((ak l1 aD).f0.f0), .int .i64 0, .string (⟨#[]⟩ : ByteArray), .bool false, .bool false, .int .i64 0, .bool false, .string (⟨#[]⟩ : ByteArray), .int .i64 0, .int .i64 0, .string (⟨#[]⟩ : ByteArray), .bool false, .bool false]) ?_ 1 _ rfl; (with_reducible repeat (first | apply kN | apply kD | apply kA)); refine bX (cs := #[.int .i64 0, .int .i64 0, .string (⟨#[]⟩ : ByteArray), .bool false, .bool false, .int .i64 0, .bool false, .string (⟨#[]⟩ : ByteArray), .int .i64 0, .int .i64 0, .string (⟨#[]⟩ : ByteArray), .bool false, .bool false]) ?_ 0 _ rfl; (with_reducible repeat (first | apply kN | apply kD | apply kA)); exact gN.out) hb); have aK := am (bP (by repeat (first | (with_reducible first | exact HB.out | apply bA | apply pN | apply au | refine bS ?_ EM.out) | exact HB.out)) hb); clear iI; clear gN; clear HB; have iI := ay; have gN := aA; have HB := aK; clear ay aA aK; (try clear hb); (try clear hb2); (try clear hk); (try clear hi)) | ((with_reducible refine TS (b := .append) (xs := #[.tmp 14, .tmp 17]) rfl ?_); at_builtin; refine Kd.TT Kd.string (w0 := w) w.heap.size rfl (.tmp 14) (.tmp 17) 37 9 (.string ⟨#[]⟩) 16 rfl Tryz.underlying37 ZI rfl (by decide) (by omega) u5 dw t170 [.string t170] (fun _ => True) (fun _ => False) rfl rfl ?aP (fun _ hk => hk.elim) ?aF ?aO ?aB ?aS ?aL ?_; (case aP => exact rfl); (case aB => exact (by repeat (first | (with_reducible first | exact HB.out | apply bA | apply pN | apply au | refine bS ?_ EM.out) | exact HB.out))); (case aF => exact (fun _ _ => trivial)); (case aO => exact (by (with_reducible repeat (first | apply Kd.kK | apply Kd.ku | apply Kd.kM)); exact iI.out)); (case aS => exact (bZ (by repeat (first | (with_reducible first | exact HB.out | apply bA | apply pN | apply au | refine bS ?_ EM.out) | exact HB.out)))); (case aL => have := ae_.out; omega); intro aui sP ho hb hg hat; rw [← afa.out] at ho; have ay := am (afc (g := lQ) (o := .cells #[.int .i64 ((ak l1 aD).f0.f0), .int .i64 ((ak l1 aD).f0.f1), .string ((ak l1 aD).f0.f2), .bool ((ak l1 aD).f0.f3), .bool ((ak l1 aD).f0.f4), .int .i64 ((ak l1 aD).f1), .bool ((ak l1 aD).f2), .string ((ak l1 aD).f3), .int .i64 ((ak l1 aD).f4.f0), .int .i64 ((ak l1 aD).f4.f1), .string ((ak l1 aD).f4.f2), .bool ((ak l1 aD).f4.f3), .bool ((ak l1 aD).f4.f4)] 31 (0, 0)) (by (with_reducible repeat (first | apply kN | apply kD | apply kA)); exact gN.out) hg (Kd.afd iI.out gN.out (by decide))); have aA := am (hb); have aK := am (ho); clear gN; clear HB; clear iI; have gN := ay; have HB := aA; have afe := aK; clear ay aA aK; clear ho hb hg hat))
       go_roundg k1
       case measure => have := eu.out; omega
       case rel => exact ⟨(TR), (wrap64 (aD + 1)), (by first | rfl | (simp; done) | (simp [*]; done)), H', ⟨by have := eu.out; omega⟩, ⟨by (with_reducible repeat (first | apply Kd.kK | apply Kd.ku | apply Kd.kM)); exact afe.out⟩, ⟨by repeat (first | (with_reducible first | exact HB.out | apply bA | apply pN | apply au | refine bS ?_ EM.out) | exact HB.out)⟩⟩
      ·rw [if_neg c7] at H
       exact absurd H (by simp)
     ·rw [if_neg c5] at H
      exact absurd H (by simp)
    ·rw [if_neg c4] at H
     exact absurd H (by simp)
   ·rw [if_neg c3] at H
    have gH : decide (aD < (l1.length : Int)) = false := decide_eq_false c3
    clear c3
    by_cases c12 : a0.size + 1 ≤ 9223372036854775807
    ·rw [if_pos c12] at H
     have wT := eq_true c12
     have wU : decide (a0.size + 1 ≤ 9223372036854775807) = true := decide_eq_true c12
     try have SK : (9223372036854775807 < a0.size + 1) = False := eq_false (Nat.not_lt.2 c12)
     replace H := Option.bind_eq_some_iff.mp H
     obtain ⟨t174, DI, H⟩ := H
     replace H : (if a0.size + 1 + t174.size ≤ 9223372036854775807 then (if a0.size + 1 + t174.size + 1 ≤ 9223372036854775807 then (some (((a0 ++ (⟨#[40]⟩ : ByteArray)) ++ t174) ++ (⟨#[41]⟩ : ByteArray))) else (none)) else (none)) = some r := H
     have Lf := am DI
     clear DI
     by_cases c14 : a0.size + 1 + t174.size ≤ 9223372036854775807
     ·rw [if_pos c14] at H
      have Cm := eq_true c14
      have Nc : decide (a0.size + 1 + t174.size ≤ 9223372036854775807) = true := decide_eq_true c14
      try have TI : (9223372036854775807 < a0.size + 1 + t174.size) = False := eq_false (Nat.not_lt.2 c14)
      by_cases c15 : a0.size + 1 + t174.size + 1 ≤ 9223372036854775807
      ·rw [if_pos c15] at H
       have sV := eq_true c15
       have xw : decide (a0.size + 1 + t174.size + 1 ≤ 9223372036854775807) = true := decide_eq_true c15
       try have adC : (9223372036854775807 < a0.size + 1 + t174.size + 1) = False := eq_false (Nat.not_lt.2 c15)
       obtain rfl := Option.some.inj H
       obtain ⟨aff, afg, afh⟩ := Kd.rO iI.out
       subst afh
       go_wp2_with (first | ((with_reducible refine bY (f := 17) rfl ?_); refine b_ (some 23) rfl rfl Tryz.func17 (by kernel_rfl) rfl #[.slice aff dw.length afg, .string (⟨#[44]⟩ : ByteArray)] rfl (by (try simp only [List.map_toArray, List.map_cons, List.map_nil]); first | done | rfl | (simp only [List.length_drop, List.length_take]; rfl)) ?_; (with_reducible refine (strings_Join.calls _ _ dw (⟨#[44]⟩ : ByteArray) t174 _ ?dB ?jV Lf.out).mono ?_); (case dB => repeat (first | exact (Kd.pq iI.out).2.2 | (with_reducible refine Kd.vH ?_ _) | (with_reducible refine Kd.vI ?_ _) | (with_reducible refine Kd.vJ ?_))); (case jV => exact (Kd.pq iI.out).2.1); rintro e TK ⟨rfl, hb⟩; refine ⟨_, rfl, ?_⟩; have ay := am (Kd.Cv (by (with_reducible repeat (first | apply Kd.kK | apply Kd.ku | apply Kd.kM)); exact iI.out) hb); have aA := am (bP (by repeat (first | (with_reducible first | exact HB.out | apply bA | apply pN | apply au) | exact HB.out)) hb); clear iI; clear HB; have iI := ay; have HB := aA; clear ay aA; (try clear hb); (try clear hb2); (try clear hk); (try clear hi)))
       go_ret
       exact ⟨by first | rfl | (simp [aQ, aR] <;> rfl) | (simp [*, aQ, aR] <;> rfl), by repeat (first | (with_reducible first | exact HB.out | apply bA | apply pN | apply au) | exact HB.out)⟩
      ·rw [if_neg c15] at H
       exact absurd H (by simp)
     ·rw [if_neg c14] at H
      exact absurd H (by simp)
    ·rw [if_neg c12] at H
     exact absurd H (by simp)
noncomputable def j4.l0 : Nat → ByteArray → List (eP) → List (eP) → Int → Int → Option (ByteArray × Int)
 | 0, _, _, _, _, _ => none
 | k + 1, x0, x1, x8, x9, x10 => if x10 < x9 then (if 0 ≤ x10 then (if x10 < (x8.length : Int) then ((iY.f k ((ak x8 x10).f0.f0) ((ak x8 x10).f0.f1) ((ak x8 x10).f0.f2) ((ak x8 x10).f0.f3) ((ak x8 x10).f0.f4) ((ak x8 x10).f0.f0) ((ak x8 x10).f0.f1) ((ak x8 x10).f0.f2) ((ak x8 x10).f0.f3) ((ak x8 x10).f0.f4) ((ak x8 x10).f1) ((ak x8 x10).f2) ((ak x8 x10).f3) ((ak x8 x10).f4.f0) ((ak x8 x10).f4.f1) ((ak x8 x10).f4.f2) ((ak x8 x10).f4.f3) ((ak x8 x10).f4.f4)).bind fun t177 => (if t177 = 0 then (j4.l0 k x0 x1 x8 x9 (wrap64 (x10 + 1))) else (some ((⟨#[]⟩ : ByteArray), 1)))) else (none)) else (none)) else ((lG.f k x0 x1).bind fun t178 => (some (t178, 0)))
noncomputable def j4.f (k : Nat) (a0 : ByteArray) (l1 : List (eP)) : Option (ByteArray × Int) := j4.l0 k a0 l1 l1 (l1.length : Int) 0
theorem j4.calls (k : Nat) (a0 : ByteArray) (A1 : Option Addr) (c1 : Nat) (l1 : List (eP)) (r1 : ByteArray) (r2 : Int) (w : World) (hr1 : Kd.C uw w A1 l1.length l1) (hc1 : l1.length ≤ c1) (HT0 : Go.Proofs.fM.jv w) (h : j4.f k a0 l1 = some (r1, r2)) :
 Calls Tryz.prog 4 #[.string a0, .slice A1 l1.length c1] w fun e w' => e = .returned (.tuple #[.string r1, .int .i64 r2]) ∧ Below w.heap.size w w' := by
 have wW := Tryz.underlying31
 have lI := Tryz.underlying29
 have HR1 := am hr1
 have o9 := am hc1
 clear hr1 hc1
 have HB := am (Below.refl w.heap.size w)
 have HT := am HT0
 clear HT0
 have H : (j4.l0 k a0 l1 l1 (l1.length : Int) 0) = some (r1, r2) := h
 clear h
 have H' := am H
 clear H
 go_enter Tryz.func4, Tryz.ntmps4
 go_wp2
 go_loopg [10] k (fun kq v10 w' => ∃ (aD : Int), v10 = .int .i64 aD ∧ bI (j4.l0 kq a0 l1 l1 (l1.length : Int) aD = some (r1, r2)) ∧ bI (kq ≤ k) ∧ bI (Below w.heap.size w w'))
 case atStart => exact ⟨(0), (by first | rfl | (simp; done) | (simp [*]; done)), H', ⟨Nat.le_refl _⟩, ⟨by repeat (first | (with_reducible first | exact HB.out | apply bA | apply pN | apply au) | exact HB.out)⟩⟩
 case round =>
  clear H'
  try clear c1
  try clear p2
  obtain ⟨aD, rfl, HA, eu, HB⟩ := hrel
  cases gk with
  | zero => exact absurd HA.out (by simp [j4.l0])
  | succ k1 =>
   have H := HA.out
   clear HA
   simp only [j4.l0] at H
   by_cases c3 : aD < (l1.length : Int)
   ·rw [if_pos c3] at H
    have gH : decide (aD < (l1.length : Int)) = true := decide_eq_true c3
    clear c3
    by_cases c4 : 0 ≤ aD
    ·rw [if_pos c4] at H
     have fJ : decide (0 ≤ aD) = true := decide_eq_true c4
     clear c4
     by_cases c5 : aD < (l1.length : Int)
     ·rw [if_pos c5] at H
      have g_ : decide (aD < (l1.length : Int)) = true := decide_eq_true c5
      clear c5
      replace H := Option.bind_eq_some_iff.mp H
      obtain ⟨t177, lM, H⟩ := H
      replace H : (if t177 = 0 then (j4.l0 k1 a0 l1 l1 (l1.length : Int) (wrap64 (aD + 1))) else (some ((⟨#[]⟩ : ByteArray), 1))) = some (r1, r2) := H
      have A6 := am lM
      clear lM
      by_cases c7 : t177 = 0
      ·rw [if_pos c7] at H
       have iB : (t177 == 0) = true := beq_iff_eq.mpr c7
       have j5 : (t177 != 0) = false := bne_eq_false_iff_eq.mpr c7
       clear c7
       have H' := am H
       clear H
       have Ac : 0 ≤ (aD : Int) := of_decide_eq_true (by first | (with_reducible assumption) | assumption)
       have Ad : aD < (l1.length : Int) := of_decide_eq_true (by first | (with_reducible assumption) | assumption)
       obtain ⟨afi, NC, Ae, Af, Ag, Ah, Aj, Ak, Al, Am, Ao, Ap, Aq, Ar, Au⟩ := uy HR1.out aD Ac Ad
       cases NC
       replace Ae := (HB.out.cell (World.block_lt_of_cell? w _ Ae)).trans Ae
       replace Af := (HB.out.cell (World.block_lt_of_cell? w _ Af)).trans Af
       replace Ag := (HB.out.cell (World.block_lt_of_cell? w _ Ag)).trans Ag
       replace Ah := (HB.out.cell (World.block_lt_of_cell? w _ Ah)).trans Ah
       replace Aj := (HB.out.cell (World.block_lt_of_cell? w _ Aj)).trans Aj
       replace Ak := (HB.out.cell (World.block_lt_of_cell? w _ Ak)).trans Ak
       replace Al := (HB.out.cell (World.block_lt_of_cell? w _ Al)).trans Al
       replace Am := (HB.out.cell (World.block_lt_of_cell? w _ Am)).trans Am
       replace Ao := (HB.out.cell (World.block_lt_of_cell? w _ Ao)).trans Ao
       replace Ap := (HB.out.cell (World.block_lt_of_cell? w _ Ap)).trans Ap
       replace Aq := (HB.out.cell (World.block_lt_of_cell? w _ Aq)).trans Aq
       replace Ar := (HB.out.cell (World.block_lt_of_cell? w _ Ar)).trans Ar
       replace Au := (HB.out.cell (World.block_lt_of_cell? w _ Au)).trans Au
       replace Ac := eq_true Ac
       replace Ad := eq_true Ad
       go_wp2_with (first | ((with_reducible refine cK (N := 7) rfl ?_); refine cO ?hg (N := 7) ?hd (cs := #[.int .i64 0, .int .i64 0, .string (⟨#[]⟩ : ByteArray), .bool false, .bool false, .int .i64 0, .bool false, .string (⟨#[]⟩ : ByteArray), .int .i64 0, .int .i64 0, .string (⟨#[]⟩ : ByteArray), .bool false, .bool false]) (t := 31) ?hr ?_; (case hd => rfl); (case hg => rfl); (case hr => first | (go_simp; done) | (go_simp; rfl)); intro Av hg w8 aV hb; have ay := am (bP (by repeat (first | (with_reducible first | exact HB.out | apply bA | apply pN | apply au) | exact HB.out)) hb); have aA := am (aV); have aK := am ((by rw [hg]; exact (bZ (by repeat (first | (with_reducible first | exact HB.out | apply bA | apply pN | apply au) | exact HB.out))) : w.heap.size ≤ Av)); have aU := am ((by rw [hg]; exact (bZ (by repeat (first | (with_reducible first | exact HB.out | apply bA | apply pN | apply au) | exact HB.out))) : w.heap.size ≤ Av)); clear HB; have HB := ay; have dX := aA; have afj := aK; have Aw := aU; clear ay aA aK aU; clear hb aV hg; have := cz dX.out 0 rfl; have := cz dX.out 1 rfl; have := cz dX.out 2 rfl; have := cz dX.out 3 rfl; have := cz dX.out 4 rfl; have := cz dX.out 5 rfl; have := cz dX.out 6 rfl; have := cz dX.out 7 rfl; have := cz dX.out 8 rfl; have := cz dX.out 9 rfl; have := cz dX.out 10 rfl; have := cz dX.out 11 rfl; have := cz dX.out 12 rfl; have := fz dX.out 0; have := fz dX.out 1; have := fz dX.out 2; have := fz dX.out 3; have := fz dX.out 4; have := fz dX.out 5; have := fz dX.out 6; have := fz dX.out 7; have := fz dX.out 8; have := fz dX.out 9; have := fz dX.out 10; have := fz dX.out 11; have := fz dX.out 12) | ((with_reducible refine bY (f := 7) rfl ?_); refine b_ (some 17) rfl rfl Tryz.func7 (by kernel_rfl) rfl #[.agg #[.int .i64 ((ak l1 aD).f0.f0), .int .i64 ((ak l1 aD).f0.f1), .string ((ak l1 aD).f0.f2), .bool ((ak l1 aD).f0.f3), .bool ((ak l1 aD).f0.f4)], .agg #[.int .i64 ((ak l1 aD).f0.f0), .int .i64 ((ak l1 aD).f0.f1), .string ((ak l1 aD).f0.f2), .bool ((ak l1 aD).f0.f3), .bool ((ak l1 aD).f0.f4), .int .i64 ((ak l1 aD).f1), .bool ((ak l1 aD).f2), .string ((ak l1 aD).f3), .int .i64 ((ak l1 aD).f4.f0), .int .i64 ((ak l1 aD).f4.f1), .string ((ak l1 aD).f4.f2), .bool ((ak l1 aD).f4.f3), .bool ((ak l1 aD).f4.f4)]] rfl (by (try simp only [List.map_toArray, List.map_cons, List.map_nil]); first | done | rfl | (simp only [List.length_drop, List.length_take]; rfl)) ?_; (with_reducible refine (iY.calls k1 ((ak l1 aD).f0.f0) ((ak l1 aD).f0.f1) ((ak l1 aD).f0.f2) ((ak l1 aD).f0.f3) ((ak l1 aD).f0.f4) ((ak l1 aD).f0.f0) ((ak l1 aD).f0.f1) ((ak l1 aD).f0.f2) ((ak l1 aD).f0.f3) ((ak l1 aD).f0.f4) ((ak l1 aD).f1) ((ak l1 aD).f2) ((ak l1 aD).f3) ((ak l1 aD).f4.f0) ((ak l1 aD).f4.f1) ((ak l1 aD).f4.f2) ((ak l1 aD).f4.f3) ((ak l1 aD).f4.f4) t177 _ ?dB A6.out).mono ?_); (case dB => exact HT.out.below (by repeat (first | (with_reducible first | exact HB.out | apply bA | apply pN | apply au | refine bS ?_ Aw.out) | exact HB.out))); rintro e o7 ⟨rfl, hb⟩; refine ⟨_, rfl, ?_⟩; have ay := am (kB (g := Av) (o := .cells #[.int .i64 ((ak l1 aD).f0.f0), .int .i64 ((ak l1 aD).f0.f1), .string ((ak l1 aD).f0.f2), .bool ((ak l1 aD).f0.f3), .bool ((ak l1 aD).f0.f4), .int .i64 ((ak l1 aD).f1), .bool ((ak l1 aD).f2), .string ((ak l1 aD).f3), .int .i64 ((ak l1 aD).f4.f0), .int .i64 ((ak l1 aD).f4.f1), .string ((ak l1 aD).f4.f2), .bool ((ak l1 aD).f4.f3), .bool ((ak l1 aD).f4.f4)] 31 (0, 0)) (by (with_reducible repeat (first | apply kN | apply kD | apply kA)); refine bX (cs := #[.int .i64 ((ak l1 aD).f0.f0), .int .i64 ((ak l1 aD).f0.f1), .string ((ak l1 aD).f0.f2), .bool ((ak l1 aD).f0.f3), .bool ((ak l1 aD).f0.f4), .int .i64 ((ak l1 aD).f1), .bool ((ak l1 aD).f2), .string ((ak l1 aD).f3), .int .i64 ((ak l1 aD).f4.f0), .int .i64 ((ak l1 aD).f4.f1), .string ((ak l1 aD).f4.f2), .bool ((ak l1 aD).f4.f3), .bool false]) ?_ 12 _ rfl; (with_reducible repeat (first | apply kN | apply kD | apply kA)); refine bX (cs := #[.int .i64 ((ak l1 aD).f0.f0), .int .i64 ((ak l1 aD).f0.f1), .string ((ak l1 aD).f0.f2), .bool ((ak l1 aD).f0.f3), .bool ((ak l1 aD).f0.f4), .int .i64 ((ak l1 aD).f1), .bool ((ak l1 aD).f2), .string ((ak l1 aD).f3), .int .i64 ((ak l1 aD).f4.f0), .int .i64 ((ak l1 aD).f4.f1), .string ((ak l1 aD).f4.f2), .bool false, .bool false]) ?_ 11 _ rfl; (with_reducible repeat (first | apply kN | apply kD | apply kA)); refine bX (cs := #[.int .i64 ((ak l1 aD).f0.f0), .int .i64 ((ak l1 aD).f0.f1), .string ((ak l1 aD).f0.f2), .bool ((ak l1 aD).f0.f3), .bool ((ak l1 aD).f0.f4), .int .i64 ((ak l1 aD).f1), .bool ((ak l1 aD).f2), .string ((ak l1 aD).f3), .int .i64 ((ak l1 aD).f4.f0), .int .i64 ((ak l1 aD).f4.f1), .string (⟨#[]⟩ : ByteArray), .bool false, .bool false]) ?_ 10 _ rfl; (with_reducible repeat (first | apply kN | apply kD | apply kA)); refine bX (cs := #[.int .i64 ((ak l1 aD).f0.f0), .int .i64 ((ak l1 aD).f0.f1), .string ((ak l1 aD).f0.f2), .bool ((ak l1 aD).f0.f3), .bool ((ak l1 aD).f0.f4), .int .i64 ((ak l1 aD).f1), .bool ((ak l1 aD).f2), .string ((ak l1 aD).f3), .int .i64 ((ak l1 aD).f4.f0), .int .i64 0, .string (⟨#[]⟩ : ByteArray), .bool false, .bool false]) ?_ 9 _ rfl; (with_reducible repeat (first | apply kN | apply kD | apply kA)); refine bX (cs := #[.int .i64 ((ak l1 aD).f0.f0), .int .i64 ((ak l1 aD).f0.f1), .string ((ak l1 aD).f0.f2), .bool ((ak l1 aD).f0.f3), .bool ((ak l1 aD).f0.f4), .int .i64 ((ak l1 aD).f1), .bool ((ak l1 aD).f2), .string ((ak l1 aD).f3), .int .i64 0, .int .i64 0, .string (⟨#[]⟩ : ByteArray), .bool false, .bool false]) ?_ 8 _ rfl; (with_reducible repeat (first | apply kN | apply kD | apply kA)); refine bX (cs := #[.int .i64 ((ak l1 aD).f0.f0), .int .i64 ((ak l1 aD).f0.f1), .string ((ak l1 aD).f0.f2), .bool ((ak l1 aD).f0.f3), .bool ((ak l1 aD).f0.f4), .int .i64 ((ak l1 aD).f1), .bool ((ak l1 aD).f2), .string (⟨#[]⟩ : ByteArray), .int .i64 0, .int .i64 0, .string (⟨#[]⟩ : ByteArray), .bool false, .bool false]) ?_ 7 _ rfl; (with_reducible repeat (first | apply kN | apply kD | apply kA)); refine bX (cs := #[.int .i64 ((ak l1 aD).f0.f0), .int .i64 ((ak l1 aD).f0.f1), .string ((ak l1 aD).f0.f2), .bool ((ak l1 aD).f0.f3), .bool ((ak l1 aD).f0.f4), .int .i64 ((ak l1 aD).f1), .bool false, .string (⟨#[]⟩ : ByteArray), .int .i64 0, .int .i64 0, .string (⟨#[]⟩ : ByteArray), .bool false, .bool false]) ?_ 6 _ rfl; (with_reducible repeat (first | apply kN | apply kD | apply kA)); refine bX (cs := #[.int .i64 ((ak l1 aD).f0.f0), .int .i64 ((ak l1 aD).f0.f1), .string ((ak l1 aD).f0.f2), .bool ((ak l1 aD).f0.f3), .bool ((ak l1 aD).f0.f4), .int .i64 0, .bool false, .string (⟨#[]⟩ : ByteArray), .int .i64 0, .int .i64 0, .string (⟨#[]⟩ : ByteArray), .bool false, .bool false]) ?_ 5 _ rfl; (with_reducible repeat (first | apply kN | apply kD | apply kA)); refine bX (cs := #[.int .i64 ((ak l1 aD).f0.f0), .int .i64 ((ak l1 aD).f0.f1), .string ((ak l1 aD).f0.f2), .bool ((ak l1 aD).f0.f3), .bool false, .int .i64 0, .bool false, .string (⟨#[]⟩ : ByteArray), .int .i64 0, .int .i64 0, .string (⟨#[]⟩ : ByteArray), .bool false, .bool false]) ?_ 4 _ rfl; (with_reducible repeat (first | apply kN | apply kD | apply kA)); refine bX (cs := #[.int .i64 ((ak l1 aD).f0.f0), .int .i64 ((ak l1 aD).f0.f1), .string ((ak l1 aD).f0.f2), .bool false, .bool false, .int .i64 0, .bool false, .string (⟨#[]⟩ : ByteArray), .int .i64 0, .int .i64 0, .string (⟨#[]⟩ : ByteArray), .bool false, .bool false]) ?_ 3 _ rfl; (with_reducible repeat (first | apply kN | apply kD | apply kA)); refine bX (cs := #[.int .i64 ((ak l1 aD).f0.f0), .int .i64 ((ak l1 aD).f0.f1), .string (⟨#[]⟩ : ByteArray), .bool false, .bool false, .int .i64 0, .bool false, .string (⟨#[]⟩ : ByteArray), .int .i64 0, .int .i64 0, .string (⟨#[]⟩ : ByteArray), .bool false, .bool false]) ?_ 2 _ rfl; (with_reducible repeat (first | apply kN | apply kD | apply kA)); refine bX (cs := #[.int .i64 ((ak l1 aD).f0.f0), .int .i64 0, .string (⟨#[]⟩ : ByteArray), .bool false, .bool false, .int .i64 0, .bool false, .string (⟨#[]⟩ : ByteArray), .int .i64 0, .int .i64 0, .string (⟨#[]⟩ : ByteArray), .bool false, .bool false]) ?_ 1 _ rfl; (with_reducible repeat (first | apply kN | apply kD | apply kA)); refine bX (cs := #[.int .i64 0, .int .i64 0, .string (⟨#[]⟩ : ByteArray), .bool false, .bool false, .int .i64 0, .bool false, .string (⟨#[]⟩ : ByteArray), .int .i64 0, .int .i64 0, .string (⟨#[]⟩ : ByteArray), .bool false, .bool false]) ?_ 0 _ rfl; (with_reducible repeat (first | apply kN | apply kD | apply kA)); exact dX.out) hb); have aA := am (bP (by repeat (first | (with_reducible first | exact HB.out | apply bA | apply pN | apply au | refine bS ?_ Aw.out) | exact HB.out)) hb); clear dX; clear HB; have dX := ay; have HB := aA; clear ay aA; (try clear hb); (try clear hb2); (try clear hk); (try clear hi)))
       go_roundg k1
       case measure => have := eu.out; omega
       case rel => exact ⟨(wrap64 (aD + 1)), (by first | rfl | (simp; done) | (simp [*]; done)), H', ⟨by have := eu.out; omega⟩, ⟨by repeat (first | (with_reducible first | exact HB.out | apply bA | apply pN | apply au | refine bS ?_ Aw.out) | exact HB.out)⟩⟩
      ·rw [if_neg c7] at H
       have iB : (t177 == 0) = false := beq_eq_false_iff_ne.mpr c7
       have j5 : (t177 != 0) = true := bne_iff_ne.mpr c7
       simp only [Option.some.injEq, Prod.mk.injEq] at H
       obtain ⟨rfl, rfl⟩ := H
       have Ac : 0 ≤ (aD : Int) := of_decide_eq_true (by first | (with_reducible assumption) | assumption)
       have Ad : aD < (l1.length : Int) := of_decide_eq_true (by first | (with_reducible assumption) | assumption)
       obtain ⟨afi, NC, Ae, Af, Ag, Ah, Aj, Ak, Al, Am, Ao, Ap, Aq, Ar, Au⟩ := uy HR1.out aD Ac Ad
       cases NC
       replace Ae := (HB.out.cell (World.block_lt_of_cell? w _ Ae)).trans Ae
       replace Af := (HB.out.cell (World.block_lt_of_cell? w _ Af)).trans Af
       replace Ag := (HB.out.cell (World.block_lt_of_cell? w _ Ag)).trans Ag
       replace Ah := (HB.out.cell (World.block_lt_of_cell? w _ Ah)).trans Ah
       replace Aj := (HB.out.cell (World.block_lt_of_cell? w _ Aj)).trans Aj
       replace Ak := (HB.out.cell (World.block_lt_of_cell? w _ Ak)).trans Ak
       replace Al := (HB.out.cell (World.block_lt_of_cell? w _ Al)).trans Al
       replace Am := (HB.out.cell (World.block_lt_of_cell? w _ Am)).trans Am
       replace Ao := (HB.out.cell (World.block_lt_of_cell? w _ Ao)).trans Ao
       replace Ap := (HB.out.cell (World.block_lt_of_cell? w _ Ap)).trans Ap
       replace Aq := (HB.out.cell (World.block_lt_of_cell? w _ Aq)).trans Aq
       replace Ar := (HB.out.cell (World.block_lt_of_cell? w _ Ar)).trans Ar
       replace Au := (HB.out.cell (World.block_lt_of_cell? w _ Au)).trans Au
       replace Ac := eq_true Ac
       replace Ad := eq_true Ad
       go_wp2_with (first | ((with_reducible refine cK (N := 7) rfl ?_); refine cO ?hg (N := 7) ?hd (cs := #[.int .i64 0, .int .i64 0, .string (⟨#[]⟩ : ByteArray), .bool false, .bool false, .int .i64 0, .bool false, .string (⟨#[]⟩ : ByteArray), .int .i64 0, .int .i64 0, .string (⟨#[]⟩ : ByteArray), .bool false, .bool false]) (t := 31) ?hr ?_; (case hd => rfl); (case hg => rfl); (case hr => first | (go_simp; done) | (go_simp; rfl)); intro Av hg sP aV hb; have ay := am (bP (by repeat (first | (with_reducible first | exact HB.out | apply bA | apply pN | apply au) | exact HB.out)) hb); have aA := am (aV); have aK := am ((by rw [hg]; exact (bZ (by repeat (first | (with_reducible first | exact HB.out | apply bA | apply pN | apply au) | exact HB.out))) : w.heap.size ≤ Av)); have aU := am ((by rw [hg]; exact (bZ (by repeat (first | (with_reducible first | exact HB.out | apply bA | apply pN | apply au) | exact HB.out))) : w.heap.size ≤ Av)); clear HB; have HB := ay; have dX := aA; have afj := aK; have Aw := aU; clear ay aA aK aU; clear hb aV hg; have := cz dX.out 0 rfl; have := cz dX.out 1 rfl; have := cz dX.out 2 rfl; have := cz dX.out 3 rfl; have := cz dX.out 4 rfl; have := cz dX.out 5 rfl; have := cz dX.out 6 rfl; have := cz dX.out 7 rfl; have := cz dX.out 8 rfl; have := cz dX.out 9 rfl; have := cz dX.out 10 rfl; have := cz dX.out 11 rfl; have := cz dX.out 12 rfl; have := fz dX.out 0; have := fz dX.out 1; have := fz dX.out 2; have := fz dX.out 3; have := fz dX.out 4; have := fz dX.out 5; have := fz dX.out 6; have := fz dX.out 7; have := fz dX.out 8; have := fz dX.out 9; have := fz dX.out 10; have := fz dX.out 11; have := fz dX.out 12) | ((with_reducible refine bY (f := 7) rfl ?_); refine b_ (some 17) rfl rfl Tryz.func7 (by kernel_rfl) rfl #[.agg #[.int .i64 ((ak l1 aD).f0.f0), .int .i64 ((ak l1 aD).f0.f1), .string ((ak l1 aD).f0.f2), .bool ((ak l1 aD).f0.f3), .bool ((ak l1 aD).f0.f4)], .agg #[.int .i64 ((ak l1 aD).f0.f0), .int .i64 ((ak l1 aD).f0.f1), .string ((ak l1 aD).f0.f2), .bool ((ak l1 aD).f0.f3), .bool ((ak l1 aD).f0.f4), .int .i64 ((ak l1 aD).f1), .bool ((ak l1 aD).f2), .string ((ak l1 aD).f3), .int .i64 ((ak l1 aD).f4.f0), .int .i64 ((ak l1 aD).f4.f1), .string ((ak l1 aD).f4.f2), .bool ((ak l1 aD).f4.f3), .bool ((ak l1 aD).f4.f4)]] rfl (by (try simp only [List.map_toArray, List.map_cons, List.map_nil]); first | done | rfl | (simp only [List.length_drop, List.length_take]; rfl)) ?_; (with_reducible refine (iY.calls k1 ((ak l1 aD).f0.f0) ((ak l1 aD).f0.f1) ((ak l1 aD).f0.f2) ((ak l1 aD).f0.f3) ((ak l1 aD).f0.f4) ((ak l1 aD).f0.f0) ((ak l1 aD).f0.f1) ((ak l1 aD).f0.f2) ((ak l1 aD).f0.f3) ((ak l1 aD).f0.f4) ((ak l1 aD).f1) ((ak l1 aD).f2) ((ak l1 aD).f3) ((ak l1 aD).f4.f0) ((ak l1 aD).f4.f1) ((ak l1 aD).f4.f2) ((ak l1 aD).f4.f3) ((ak l1 aD).f4.f4) t177 _ ?dB A6.out).mono ?_); (case dB => exact HT.out.below (by repeat (first | (with_reducible first | exact HB.out | apply bA | apply pN | apply au | refine bS ?_ Aw.out) | exact HB.out))); rintro e Eo ⟨rfl, hb⟩; refine ⟨_, rfl, ?_⟩; have ay := am (kB (g := Av) (o := .cells #[.int .i64 ((ak l1 aD).f0.f0), .int .i64 ((ak l1 aD).f0.f1), .string ((ak l1 aD).f0.f2), .bool ((ak l1 aD).f0.f3), .bool ((ak l1 aD).f0.f4), .int .i64 ((ak l1 aD).f1), .bool ((ak l1 aD).f2), .string ((ak l1 aD).f3), .int .i64 ((ak l1 aD).f4.f0), .int .i64 ((ak l1 aD).f4.f1), .string ((ak l1 aD).f4.f2), .bool ((ak l1 aD).f4.f3), .bool ((ak l1 aD).f4.f4)] 31 (0, 0)) (by (with_reducible repeat (first | apply kN | apply kD | apply kA)); refine bX (cs := #[.int .i64 ((ak l1 aD).f0.f0), .int .i64 ((ak l1 aD).f0.f1), .string ((ak l1 aD).f0.f2), .bool ((ak l1 aD).f0.f3), .bool ((ak l1 aD).f0.f4), .int .i64 ((ak l1 aD).f1), .bool ((ak l1 aD).f2), .string ((ak l1 aD).f3), .int .i64 ((ak l1 aD).f4.f0), .int .i64 ((ak l1 aD).f4.f1), .string ((ak l1 aD).f4.f2), .bool ((ak l1 aD).f4.f3), .bool false]) ?_ 12 _ rfl; (with_reducible repeat (first | apply kN | apply kD | apply kA)); refine bX (cs := #[.int .i64 ((ak l1 aD).f0.f0), .int .i64 ((ak l1 aD).f0.f1), .string ((ak l1 aD).f0.f2), .bool ((ak l1 aD).f0.f3), .bool ((ak l1 aD).f0.f4), .int .i64 ((ak l1 aD).f1), .bool ((ak l1 aD).f2), .string ((ak l1 aD).f3), .int .i64 ((ak l1 aD).f4.f0), .int .i64 ((ak l1 aD).f4.f1), .string ((ak l1 aD).f4.f2), .bool false, .bool false]) ?_ 11 _ rfl; (with_reducible repeat (first | apply kN | apply kD | apply kA)); refine bX (cs := #[.int .i64 ((ak l1 aD).f0.f0), .int .i64 ((ak l1 aD).f0.f1), .string ((ak l1 aD).f0.f2), .bool ((ak l1 aD).f0.f3), .bool ((ak l1 aD).f0.f4), .int .i64 ((ak l1 aD).f1), .bool ((ak l1 aD).f2), .string ((ak l1 aD).f3), .int .i64 ((ak l1 aD).f4.f0), .int .i64 ((ak l1 aD).f4.f1), .string (⟨#[]⟩ : ByteArray), .bool false, .bool false]) ?_ 10 _ rfl; (with_reducible repeat (first | apply kN | apply kD | apply kA)); refine bX (cs := #[.int .i64 ((ak l1 aD).f0.f0), .int .i64 ((ak l1 aD).f0.f1), .string ((ak l1 aD).f0.f2), .bool ((ak l1 aD).f0.f3), .bool ((ak l1 aD).f0.f4), .int .i64 ((ak l1 aD).f1), .bool ((ak l1 aD).f2), .string ((ak l1 aD).f3), .int .i64 ((ak l1 aD).f4.f0), .int .i64 0, .string (⟨#[]⟩ : ByteArray), .bool false, .bool false]) ?_ 9 _ rfl; (with_reducible repeat (first | apply kN | apply kD | apply kA)); refine bX (cs := #[.int .i64 ((ak l1 aD).f0.f0), .int .i64 ((ak l1 aD).f0.f1), .string ((ak l1 aD).f0.f2), .bool ((ak l1 aD).f0.f3), .bool ((ak l1 aD).f0.f4), .int .i64 ((ak l1 aD).f1), .bool ((ak l1 aD).f2), .string ((ak l1 aD).f3), .int .i64 0, .int .i64 0, .string (⟨#[]⟩ : ByteArray), .bool false, .bool false]) ?_ 8 _ rfl; (with_reducible repeat (first | apply kN | apply kD | apply kA)); refine bX (cs := #[.int .i64 ((ak l1 aD).f0.f0), .int .i64 ((ak l1 aD).f0.f1), .string ((ak l1 aD).f0.f2), .bool ((ak l1 aD).f0.f3), .bool ((ak l1 aD).f0.f4), .int .i64 ((ak l1 aD).f1), .bool ((ak l1 aD).f2), .string (⟨#[]⟩ : ByteArray), .int .i64 0, .int .i64 0, .string (⟨#[]⟩ : ByteArray), .bool false, .bool false]) ?_ 7 _ rfl; (with_reducible repeat (first | apply kN | apply kD | apply kA)); refine bX (cs := #[.int .i64 ((ak l1 aD).f0.f0), .int .i64 ((ak l1 aD).f0.f1), .string ((ak l1 aD).f0.f2), .bool ((ak l1 aD).f0.f3), .bool ((ak l1 aD).f0.f4), .int .i64 ((ak l1 aD).f1), .bool false, .string (⟨#[]⟩ : ByteArray), .int .i64 0, .int .i64 0, .string (⟨#[]⟩ : ByteArray), .bool false, .bool false]) ?_ 6 _ rfl; (with_reducible repeat (first | apply kN | apply kD | apply kA)); refine bX (cs := #[.int .i64 ((ak l1 aD).f0.f0), .int .i64 ((ak l1 aD).f0.f1), .string ((ak l1 aD).f0.f2), .bool ((ak l1 aD).f0.f3), .bool ((ak l1 aD).f0.f4), .int .i64 0, .bool false, .string (⟨#[]⟩ : ByteArray), .int .i64 0, .int .i64 0, .string (⟨#[]⟩ : ByteArray), .bool false, .bool false]) ?_ 5 _ rfl; (with_reducible repeat (first | apply kN | apply kD | apply kA)); refine bX (cs := #[.int .i64 ((ak l1 aD).f0.f0), .int .i64 ((ak l1 aD).f0.f1), .string ((ak l1 aD).f0.f2), .bool ((ak l1 aD).f0.f3), .bool false, .int .i64 0, .bool false, .string (⟨#[]⟩ : ByteArray), .int .i64 0, .int .i64 0, .string (⟨#[]⟩ : ByteArray), .bool false, .bool false]) ?_ 4 _ rfl; (with_reducible repeat (first | apply kN | apply kD | apply kA)); refine bX (cs := #[.int .i64 ((ak l1 aD).f0.f0), .int .i64 ((ak l1 aD).f0.f1), .string ((ak l1 aD).f0.f2), .bool false, .bool false, .int .i64 0, .bool false, .string (⟨#[]⟩ : ByteArray), .int .i64 0, .int .i64 0, .string (⟨#[]⟩ : ByteArray), .bool false, .bool false]) ?_ 3 _ rfl; (with_reducible repeat (first | apply kN | apply kD | apply kA)); refine bX (cs := #[.int .i64 ((ak l1 aD).f0.f0), .int .i64 ((ak l1 aD).f0.f1), .string (⟨#[]⟩ : ByteArray), .bool false, .bool false, .int .i64 0, .bool false, .string (⟨#[]⟩ : ByteArray), .int .i64 0, .int .i64 0, .string (⟨#[]⟩ : ByteArray), .bool false, .bool false]) ?_ 2 _ rfl; (with_reducible repeat (first | apply kN | apply kD | apply kA)); refine bX (cs := #[.int .i64 ((ak l1 aD).f0.f0), .int .i64 0, .string (⟨#[]⟩ : ByteArray), .bool false, .bool false, .int .i64 0, .bool false, .string (⟨#[]⟩ : ByteArray), .int .i64 0, .int .i64 0, .string (⟨#[]⟩ : ByteArray), .bool false, .bool false]) ?_ 1 _ rfl; (with_reducible repeat (first | apply kN | apply kD | apply kA)); refine bX (cs := #[.int .i64 0, .int .i64 0, .string (⟨#[]⟩ : ByteArray), .bool false, .bool false, .int .i64 0, .bool false, .string (⟨#[]⟩ : ByteArray), .int .i64 0, .int .i64 0, .string (⟨#[]⟩ : ByteArray), .bool false, .bool false]) ?_ 0 _ rfl; (with_reducible repeat (first | apply kN | apply kD | apply kA)); exact dX.out) hb); have aA := am (bP (by repeat (first | (with_reducible first | exact HB.out | apply bA | apply pN | apply au | refine bS ?_ Aw.out) | exact HB.out)) hb); clear dX; clear HB; have dX := ay; have HB := aA; clear ay aA; (try clear hb); (try clear hb2); (try clear hk); (try clear hi)))
       go_ret2
       exact ⟨by first | rfl | (simp [aQ, aR] <;> rfl) | (simp [*, aQ, aR] <;> rfl), by repeat (first | (with_reducible first | exact HB.out | apply bA | apply pN | apply au | refine bS ?_ Aw.out) | exact HB.out)⟩
     ·rw [if_neg c5] at H
      exact absurd H (by simp)
    ·rw [if_neg c4] at H
     exact absurd H (by simp)
   ·rw [if_neg c3] at H
    have gH : decide (aD < (l1.length : Int)) = false := decide_eq_false c3
    clear c3
    replace H := Option.bind_eq_some_iff.mp H
    obtain ⟨t178, xg, H⟩ := H
    replace H : (some (t178, 0)) = some (r1, r2) := H
    have Ee := am xg
    clear xg
    simp only [Option.some.injEq, Prod.mk.injEq] at H
    obtain ⟨rfl, rfl⟩ := H
    go_wp2_with (first | ((with_reducible refine bY (f := 8) rfl ?_); refine b_ (some 22) rfl rfl Tryz.func8 (by kernel_rfl) rfl #[.string a0, .slice A1 l1.length c1] rfl (by (try simp only [List.map_toArray, List.map_cons, List.map_nil]); first | done | rfl | (simp only [List.length_drop, List.length_take]; rfl)) ?_; (with_reducible refine (lG.calls k1 a0 _ _ l1 t178 _ ?dB ?jV ?zO Ee.out).mono ?_); (case dB => repeat (first | exact (Kd.Em HR1.out HB.out) | (with_reducible refine Kd.vH ?_ _) | (with_reducible refine Kd.vI ?_ _) | (with_reducible refine Kd.vJ ?_))); (case jV => exact o9.out); (case zO => exact HT.out.below (by repeat (first | (with_reducible first | exact HB.out | apply bA | apply pN | apply au) | exact HB.out))); rintro e yY ⟨rfl, hb⟩; refine ⟨_, rfl, ?_⟩; have ay := am (bP (by repeat (first | (with_reducible first | exact HB.out | apply bA | apply pN | apply au) | exact HB.out)) hb); clear HB; have HB := ay; clear ay; (try clear hb); (try clear hb2); (try clear hk); (try clear hi)))
    go_ret2
    exact ⟨by first | rfl | (simp [aQ, aR] <;> rfl) | (simp [*, aQ, aR] <;> rfl), by repeat (first | (with_reducible first | exact HB.out | apply bA | apply pN | apply au) | exact HB.out)⟩
noncomputable def kV.f (a0 : Int) (a1 : Int) (a2 : Int) : Option (Bool) := if a0 ≥ a1 then (some (decide (a0 ≤ a2))) else (some false)
theorem kV.calls (a0 : Int) (a1 : Int) (a2 : Int) (r : Bool) (w : World) (h : kV.f a0 a1 a2 = some r) :
 Calls Tryz.prog 44 #[.int .i64 a0, .int .i64 a1, .int .i64 a2] w fun e w' => e = .returned (.bool r) ∧ bB w w' := by
 have H : (if a0 ≥ a1 then (some (decide (a0 ≤ a2))) else (some false)) = some r := h
 clear h
 by_cases c4 : a0 ≥ a1
 ·rw [if_pos c4] at H
  have fJ : decide (a1 ≤ a0) = true := decide_eq_true c4
  clear c4
  obtain rfl := Option.some.inj H
  go_enter Tryz.func44, Tryz.ntmps44
  go_wp2
  go_ret
  exact ⟨by first | rfl | (simp; done) | (simp [*]; done), by repeat (first | exact bB.refl _ | apply bB.step)⟩
 ·rw [if_neg c4] at H
  have fJ : decide (a1 ≤ a0) = false := decide_eq_false c4
  clear c4
  obtain rfl := Option.some.inj H
  go_enter Tryz.func44, Tryz.ntmps44
  go_wp2
  go_ret
  exact ⟨by first | rfl | (simp; done) | (simp [*]; done), by repeat (first | exact bB.refl _ | apply bB.step)⟩
noncomputable def fC.f (a0 : Int) : Option (Bool) := if a0 ≥ 97 then (if a0 ≤ 122 then (some true) else (if a0 ≥ 65 then (if a0 ≤ 90 then (some true) else (some (a0 == 95))) else (some (a0 == 95)))) else (if a0 ≥ 65 then (if a0 ≤ 90 then (some true) else (some (a0 == 95))) else (some (a0 == 95)))
theorem fC.calls (a0 : Int) (r : Bool) (w : World) (h : fC.f a0 = some r) :
 Calls Tryz.prog 365 #[.int .u8 a0] w fun e w' => e = .returned (.bool r) ∧ bB w w' := by
 have H : (if a0 ≥ 97 then (if a0 ≤ 122 then (some true) else (if a0 ≥ 65 then (if a0 ≤ 90 then (some true) else (some (a0 == 95))) else (some (a0 == 95)))) else (if a0 ≥ 65 then (if a0 ≤ 90 then (some true) else (some (a0 == 95))) else (some (a0 == 95)))) = some r := h
 clear h
 by_cases c2 : a0 ≥ 97
 ·rw [if_pos c2] at H
  have iN : decide (97 ≤ a0) = true := decide_eq_true c2
  clear c2
  by_cases c3 : a0 ≤ 122
  ·rw [if_pos c3] at H
   have gH : decide (a0 ≤ 122) = true := decide_eq_true c3
   clear c3
   obtain rfl := Option.some.inj H
   go_enter Tryz.func365, Tryz.ntmps365
   go_wp2
   go_ret
   exact ⟨by first | rfl | (simp; done) | (simp [*]; done), by repeat (first | exact bB.refl _ | apply bB.step)⟩
  ·rw [if_neg c3] at H
   have gH : decide (a0 ≤ 122) = false := decide_eq_false c3
   clear c3
   by_cases c4 : a0 ≥ 65
   ·rw [if_pos c4] at H
    have fJ : decide (65 ≤ a0) = true := decide_eq_true c4
    clear c4
    by_cases c5 : a0 ≤ 90
    ·rw [if_pos c5] at H
     have g_ : decide (a0 ≤ 90) = true := decide_eq_true c5
     clear c5
     obtain rfl := Option.some.inj H
     go_enter Tryz.func365, Tryz.ntmps365
     go_wp2
     go_ret
     exact ⟨by first | rfl | (simp; done) | (simp [*]; done), by repeat (first | exact bB.refl _ | apply bB.step)⟩
    ·rw [if_neg c5] at H
     have g_ : decide (a0 ≤ 90) = false := decide_eq_false c5
     clear c5
     obtain rfl := Option.some.inj H
     go_enter Tryz.func365, Tryz.ntmps365
     go_wp2
     go_ret
     exact ⟨by first | rfl | (simp; done) | (simp [*]; done), by repeat (first | exact bB.refl _ | apply bB.step)⟩
   ·rw [if_neg c4] at H
    have fJ : decide (65 ≤ a0) = false := decide_eq_false c4
    clear c4
    obtain rfl := Option.some.inj H
    go_enter Tryz.func365, Tryz.ntmps365
    go_wp2
    go_ret
    exact ⟨by first | rfl | (simp; done) | (simp [*]; done), by repeat (first | exact bB.refl _ | apply bB.step)⟩
 ·rw [if_neg c2] at H
  have iN : decide (97 ≤ a0) = false := decide_eq_false c2
  clear c2
  by_cases c6 : a0 ≥ 65
  ·rw [if_pos c6] at H
   have gT : decide (65 ≤ a0) = true := decide_eq_true c6
   clear c6
   by_cases c7 : a0 ≤ 90
   ·rw [if_pos c7] at H
    have iB : decide (a0 ≤ 90) = true := decide_eq_true c7
    clear c7
    obtain rfl := Option.some.inj H
    go_enter Tryz.func365, Tryz.ntmps365
    go_wp2
    go_ret
    exact ⟨by first | rfl | (simp; done) | (simp [*]; done), by repeat (first | exact bB.refl _ | apply bB.step)⟩
   ·rw [if_neg c7] at H
    have iB : decide (a0 ≤ 90) = false := decide_eq_false c7
    clear c7
    obtain rfl := Option.some.inj H
    go_enter Tryz.func365, Tryz.ntmps365
    go_wp2
    go_ret
    exact ⟨by first | rfl | (simp; done) | (simp [*]; done), by repeat (first | exact bB.refl _ | apply bB.step)⟩
  ·rw [if_neg c6] at H
   have gT : decide (65 ≤ a0) = false := decide_eq_false c6
   clear c6
   obtain rfl := Option.some.inj H
   go_enter Tryz.func365, Tryz.ntmps365
   go_wp2
   go_ret
   exact ⟨by first | rfl | (simp; done) | (simp [*]; done), by repeat (first | exact bB.refl _ | apply bB.step)⟩
noncomputable def iD.f (a0 : Int) : Option (Bool) := if a0 ≥ 48 then (some (decide (a0 ≤ 57))) else (some false)
theorem iD.calls (a0 : Int) (r : Bool) (w : World) (h : iD.f a0 = some r) :
 Calls Tryz.prog 367 #[.int .u8 a0] w fun e w' => e = .returned (.bool r) ∧ bB w w' := by
 have H : (if a0 ≥ 48 then (some (decide (a0 ≤ 57))) else (some false)) = some r := h
 clear h
 by_cases c2 : a0 ≥ 48
 ·rw [if_pos c2] at H
  have iN : decide (48 ≤ a0) = true := decide_eq_true c2
  clear c2
  obtain rfl := Option.some.inj H
  go_enter Tryz.func367, Tryz.ntmps367
  go_wp2
  go_ret
  exact ⟨by first | rfl | (simp; done) | (simp [*]; done), by repeat (first | exact bB.refl _ | apply bB.step)⟩
 ·rw [if_neg c2] at H
  have iN : decide (48 ≤ a0) = false := decide_eq_false c2
  clear c2
  obtain rfl := Option.some.inj H
  go_enter Tryz.func367, Tryz.ntmps367
  go_wp2
  go_ret
  exact ⟨by first | rfl | (simp; done) | (simp [*]; done), by repeat (first | exact bB.refl _ | apply bB.step)⟩
noncomputable def dJ.l0 : Nat → ByteArray → Int → Option (Int)
 | 0, _, _ => none
 | k + 1, x0, x1 => if x1 < (x0.size : Int) then (if 0 ≤ x1 then ((fC.f (bt x0 x1)).bind fun t179 => (if t179 = true then (dJ.l0 k x0 (wrap64 (x1 + 1))) else ((iD.f (bt x0 x1)).bind fun t180 => (if t180 = true then (dJ.l0 k x0 (wrap64 (x1 + 1))) else (some x1))))) else (none)) else (some x1)
noncomputable def dJ.f (k : Nat) (a0 : ByteArray) (a1 : Int) : Option (Int) := dJ.l0 k a0 a1
theorem dJ.gy : ∀ k, (∀ y0 y1, aN (dJ.l0 k y0 y1) (dJ.l0 (k + 1) y0 y1))
 | 0 => fun _ _ r h => by simp [dJ.l0] at h
 | k + 1 => by
  have cZ := dJ.gy k
  ·intro y0 y1
   unfold dJ.l0
   repeat' first
   | (with_reducible exact cZ _ _)
   | (with_reducible exact aN.refl _)
   | (with_reducible exact aN.none _)
   | (with_reducible refine aN.ite ?_ ?_)
   | (with_reducible refine aN.bind ?_ (fun _ => ?_))
   | exact cZ _ _
   | exact aN.none _
   | refine aN.ite ?_ ?_
   | refine aN.bind ?_ (fun _ => ?_)
theorem dJ.mono : ∀ a0 a1 k, aN (dJ.f k a0 a1) (dJ.f (k + 1) a0 a1) := by
 intro a0 a1 k
 have cZ := dJ.gy k
 unfold dJ.f
 repeat' first
  | (with_reducible exact cZ _ _)
  | (with_reducible exact aN.refl _)
  | (with_reducible exact aN.none _)
  | (with_reducible refine aN.ite ?_ ?_)
  | (with_reducible refine aN.bind ?_ (fun _ => ?_))
  | exact cZ _ _
  | exact aN.none _
  | refine aN.ite ?_ ?_
  | refine aN.bind ?_ (fun _ => ?_)
theorem dJ.calls (k : Nat) (a0 : ByteArray) (a1 : Int) (r : Int) (w : World) (h : dJ.f k a0 a1 = some r) :
 Calls Tryz.prog 366 #[.string a0, .int .i64 a1] w fun e w' => e = .returned (.int .i64 r) ∧ bB w w' := by
 have H : (dJ.l0 k a0 a1) = some r := h
 clear h
 have H' := am H
 clear H
 go_enter Tryz.func366, Tryz.ntmps366
 go_wp2
 go_loopg [1] k (fun kq v1 w' => ∃ (fO : Int), v1 = .int .i64 fO ∧ bI (dJ.l0 kq a0 fO = some r) ∧ bI (kq ≤ k) ∧ bB w w')
 case atStart => exact ⟨(a1), (by first | rfl | (simp; done) | (simp [*]; done)), H', ⟨Nat.le_refl _⟩, by repeat (first | exact bB.refl _ | apply bB.step)⟩
 case round =>
  clear H'
  try clear p2
  obtain ⟨fO, rfl, HA, eu, ⟨m1, rfl⟩⟩ := hrel
  cases gk with
  | zero => exact absurd HA.out (by simp [dJ.l0])
  | succ k1 =>
   have H := HA.out
   clear HA
   simp only [dJ.l0] at H
   by_cases c3 : fO < (a0.size : Int)
   ·rw [if_pos c3] at H
    have gH : decide (fO < (a0.size : Int)) = true := decide_eq_true c3
    clear c3
    by_cases c4 : 0 ≤ fO
    ·rw [if_pos c4] at H
     have fJ : decide (0 ≤ fO) = true := decide_eq_true c4
     clear c4
     replace H := Option.bind_eq_some_iff.mp H
     obtain ⟨t179, lM, H⟩ := H
     replace H : (if t179 = true then (dJ.l0 k1 a0 (wrap64 (fO + 1))) else ((iD.f (bt a0 fO)).bind fun t180 => (if t180 = true then (dJ.l0 k1 a0 (wrap64 (fO + 1))) else (some fO)))) = some r := H
     have A6 := am lM
     clear lM
     by_cases c7 : t179 = true
     ·subst c7
      have H1 : (dJ.l0 k1 a0 (wrap64 (fO + 1))) = some r := by rw [if_pos rfl] at H; exact H
      clear H
      have H := H1
      clear H1
      have H' := am H
      clear H
      have p5 : 0 ≤ (fO : Int) := of_decide_eq_true (by first | (with_reducible assumption) | assumption)
      have q5 : fO < (a0.size : Int) := of_decide_eq_true (by first | (with_reducible assumption) | assumption)
      have hx5 := gQ a0 fO
      replace p5 := eq_true p5
      replace q5 := eq_true q5
      go_wp2_with (first | (go_at_call 365; (with_reducible refine (fC.calls (bt a0 fO) true _ A6.out).mono ?_); rintro e w' ⟨rfl, ⟨nd, rfl⟩⟩))
      go_roundg k1
      case measure => have := eu.out; omega
      case rel => exact ⟨(wrap64 (fO + 1)), (by first | rfl | (simp; done) | (simp [*]; done)), H', ⟨by have := eu.out; omega⟩, by repeat (first | exact bB.refl _ | apply bB.step)⟩
     ·replace c7 := Bool.eq_false_iff.mpr c7
      subst c7
      have H1 : ((iD.f (bt a0 fO)).bind fun t180 => (if t180 = true then (dJ.l0 k1 a0 (wrap64 (fO + 1))) else (some fO))) = some r := by rw [if_neg (show ¬ (false = true) by decide)] at H; exact H
      clear H
      have H := H1
      clear H1
      replace H := Option.bind_eq_some_iff.mp H
      obtain ⟨t180, nP, H⟩ := H
      replace H : (if t180 = true then (dJ.l0 k1 a0 (wrap64 (fO + 1))) else (some fO)) = some r := H
      have A9 := am nP
      clear nP
      by_cases c10 : t180 = true
      ·subst c10
       have H1 : (dJ.l0 k1 a0 (wrap64 (fO + 1))) = some r := by rw [if_pos rfl] at H; exact H
       clear H
       have H := H1
       clear H1
       have H' := am H
       clear H
       have p5 : 0 ≤ (fO : Int) := of_decide_eq_true (by first | (with_reducible assumption) | assumption)
       have q5 : fO < (a0.size : Int) := of_decide_eq_true (by first | (with_reducible assumption) | assumption)
       have hx5 := gQ a0 fO
       replace p5 := eq_true p5
       replace q5 := eq_true q5
       go_wp2_with (first | (go_at_call 365; (with_reducible refine (fC.calls (bt a0 fO) false _ A6.out).mono ?_); rintro e w' ⟨rfl, ⟨nd, rfl⟩⟩; have p8 : 0 ≤ (fO : Int) := of_decide_eq_true (by first | (with_reducible assumption) | assumption); have q8 : fO < (a0.size : Int) := of_decide_eq_true (by first | (with_reducible assumption) | assumption); have MS := gQ a0 fO; replace p8 := eq_true p8; replace q8 := eq_true q8) | (go_at_call 367; (with_reducible refine (iD.calls (bt a0 fO) true _ A9.out).mono ?_); rintro e w' ⟨rfl, ⟨nd, rfl⟩⟩))
       go_roundg k1
       case measure => have := eu.out; omega
       case rel => exact ⟨(wrap64 (fO + 1)), (by first | rfl | (simp; done) | (simp [*]; done)), H', ⟨by have := eu.out; omega⟩, by repeat (first | exact bB.refl _ | apply bB.step)⟩
      ·replace c10 := Bool.eq_false_iff.mpr c10
       subst c10
       have H1 : (some fO) = some r := by rw [if_neg (show ¬ (false = true) by decide)] at H; exact H
       clear H
       have H := H1
       clear H1
       obtain rfl := Option.some.inj H
       have p5 : 0 ≤ (fO : Int) := of_decide_eq_true (by first | (with_reducible assumption) | assumption)
       have q5 : fO < (a0.size : Int) := of_decide_eq_true (by first | (with_reducible assumption) | assumption)
       have hx5 := gQ a0 fO
       replace p5 := eq_true p5
       replace q5 := eq_true q5
       go_wp2_with (first | (go_at_call 365; (with_reducible refine (fC.calls (bt a0 fO) false _ A6.out).mono ?_); rintro e w' ⟨rfl, ⟨nd, rfl⟩⟩; have p8 : 0 ≤ (fO : Int) := of_decide_eq_true (by first | (with_reducible assumption) | assumption); have q8 : fO < (a0.size : Int) := of_decide_eq_true (by first | (with_reducible assumption) | assumption); have MS := gQ a0 fO; replace p8 := eq_true p8; replace q8 := eq_true q8) | (go_at_call 367; (with_reducible refine (iD.calls (bt a0 fO) false _ A9.out).mono ?_); rintro e w' ⟨rfl, ⟨nd, rfl⟩⟩))
       go_ret
       exact ⟨by first | rfl | (simp; done) | (simp [*]; done), by repeat (first | exact bB.refl _ | apply bB.step)⟩
    ·rw [if_neg c4] at H
     exact absurd H (by simp)
   ·rw [if_neg c3] at H
    have gH : decide (fO < (a0.size : Int)) = false := decide_eq_false c3
    clear c3
    obtain rfl := Option.some.inj H
    go_wp2
    go_ret
    exact ⟨by first | rfl | (simp; done) | (simp [*]; done), by repeat (first | exact bB.refl _ | apply bB.step)⟩
noncomputable def oP.f  : Option (List ByteArray) := some (([(⟨#[61, 61]⟩ : ByteArray), (⟨#[33, 61]⟩ : ByteArray), (⟨#[60, 61]⟩ : ByteArray), (⟨#[62, 61]⟩ : ByteArray), (⟨#[43, 37]⟩ : ByteArray), (⟨#[43, 124]⟩ : ByteArray), (⟨#[45, 37]⟩ : ByteArray), (⟨#[45, 124]⟩ : ByteArray), (⟨#[42, 37]⟩ : ByteArray), (⟨#[46, 46]⟩ : ByteArray), (⟨#[46, 63]⟩ : ByteArray), (⟨#[61, 62]⟩ : ByteArray), (⟨#[40]⟩ : ByteArray), (⟨#[41]⟩ : ByteArray), (⟨#[123]⟩ : ByteArray), (⟨#[125]⟩ : ByteArray), (⟨#[44]⟩ : ByteArray), (⟨#[59]⟩ : ByteArray), (⟨#[58]⟩ : ByteArray), (⟨#[61]⟩ : ByteArray), (⟨#[33]⟩ : ByteArray), (⟨#[60]⟩ : ByteArray), (⟨#[62]⟩ : ByteArray), (⟨#[43]⟩ : ByteArray), (⟨#[45]⟩ : ByteArray), (⟨#[42]⟩ : ByteArray), (⟨#[47]⟩ : ByteArray), (⟨#[37]⟩ : ByteArray), (⟨#[38]⟩ : ByteArray), (⟨#[124]⟩ : ByteArray), (⟨#[94]⟩ : ByteArray), (⟨#[63]⟩ : ByteArray), (⟨#[46]⟩ : ByteArray)] : List ByteArray))
theorem oP.calls  (r : List ByteArray) (w : World) (h : oP.f  = some r) :
 Calls Tryz.prog 368 #[] w fun e w' => ∃ xI : Value, e = .returned (xI) ∧ Kd.R Kd.string 9 w' w.heap.size (fun _ => True) xI r ∧ Below w.heap.size w w' := by
 have HB := am (Below.refl w.heap.size w)
 have H : (some (([(⟨#[61, 61]⟩ : ByteArray), (⟨#[33, 61]⟩ : ByteArray), (⟨#[60, 61]⟩ : ByteArray), (⟨#[62, 61]⟩ : ByteArray), (⟨#[43, 37]⟩ : ByteArray), (⟨#[43, 124]⟩ : ByteArray), (⟨#[45, 37]⟩ : ByteArray), (⟨#[45, 124]⟩ : ByteArray), (⟨#[42, 37]⟩ : ByteArray), (⟨#[46, 46]⟩ : ByteArray), (⟨#[46, 63]⟩ : ByteArray), (⟨#[61, 62]⟩ : ByteArray), (⟨#[40]⟩ : ByteArray), (⟨#[41]⟩ : ByteArray), (⟨#[123]⟩ : ByteArray), (⟨#[125]⟩ : ByteArray), (⟨#[44]⟩ : ByteArray), (⟨#[59]⟩ : ByteArray), (⟨#[58]⟩ : ByteArray), (⟨#[61]⟩ : ByteArray), (⟨#[33]⟩ : ByteArray), (⟨#[60]⟩ : ByteArray), (⟨#[62]⟩ : ByteArray), (⟨#[43]⟩ : ByteArray), (⟨#[45]⟩ : ByteArray), (⟨#[42]⟩ : ByteArray), (⟨#[47]⟩ : ByteArray), (⟨#[37]⟩ : ByteArray), (⟨#[38]⟩ : ByteArray), (⟨#[124]⟩ : ByteArray), (⟨#[94]⟩ : ByteArray), (⟨#[63]⟩ : ByteArray), (⟨#[46]⟩ : ByteArray)] : List ByteArray))) = some r := h
 clear h
 obtain ⟨afk, EO⟩ : ∃ y_ : List ByteArray, y_ = (([(⟨#[61, 61]⟩ : ByteArray), (⟨#[33, 61]⟩ : ByteArray), (⟨#[60, 61]⟩ : ByteArray), (⟨#[62, 61]⟩ : ByteArray), (⟨#[43, 37]⟩ : ByteArray), (⟨#[43, 124]⟩ : ByteArray), (⟨#[45, 37]⟩ : ByteArray), (⟨#[45, 124]⟩ : ByteArray), (⟨#[42, 37]⟩ : ByteArray), (⟨#[46, 46]⟩ : ByteArray), (⟨#[46, 63]⟩ : ByteArray), (⟨#[61, 62]⟩ : ByteArray), (⟨#[40]⟩ : ByteArray), (⟨#[41]⟩ : ByteArray), (⟨#[123]⟩ : ByteArray), (⟨#[125]⟩ : ByteArray), (⟨#[44]⟩ : ByteArray), (⟨#[59]⟩ : ByteArray), (⟨#[58]⟩ : ByteArray), (⟨#[61]⟩ : ByteArray), (⟨#[33]⟩ : ByteArray), (⟨#[60]⟩ : ByteArray), (⟨#[62]⟩ : ByteArray), (⟨#[43]⟩ : ByteArray), (⟨#[45]⟩ : ByteArray), (⟨#[42]⟩ : ByteArray), (⟨#[47]⟩ : ByteArray), (⟨#[37]⟩ : ByteArray), (⟨#[38]⟩ : ByteArray), (⟨#[124]⟩ : ByteArray), (⟨#[94]⟩ : ByteArray), (⟨#[63]⟩ : ByteArray), (⟨#[46]⟩ : ByteArray)] : List ByteArray)) := ⟨_, rfl⟩
 replace H : (some afk) = some r := by first | (rw [EO]; with_reducible exact H) | (have mU := (Option.bind_some _ _).symm.trans H; rw [EO]; with_reducible exact mU) | (have mU := (Option.bind_some _ _).symm.trans H; with_reducible exact mU) | with_reducible exact H | (rw [EO]; exact H) | exact H
 have TU := am EO
 clear EO
 obtain rfl := Option.some.inj H
 go_enter Tryz.func368, Tryz.ntmps368
 go_wp2_with (first | ((with_reducible refine cK (N := 1) rfl ?_); refine Kd.TV Kd.string _ 9 ?hg (N := 1) ?hd (xs := ([(⟨#[61, 61]⟩ : ByteArray), (⟨#[33, 61]⟩ : ByteArray), (⟨#[60, 61]⟩ : ByteArray), (⟨#[62, 61]⟩ : ByteArray), (⟨#[43, 37]⟩ : ByteArray), (⟨#[43, 124]⟩ : ByteArray), (⟨#[45, 37]⟩ : ByteArray), (⟨#[45, 124]⟩ : ByteArray), (⟨#[42, 37]⟩ : ByteArray), (⟨#[46, 46]⟩ : ByteArray), (⟨#[46, 63]⟩ : ByteArray), (⟨#[61, 62]⟩ : ByteArray), (⟨#[40]⟩ : ByteArray), (⟨#[41]⟩ : ByteArray), (⟨#[123]⟩ : ByteArray), (⟨#[125]⟩ : ByteArray), (⟨#[44]⟩ : ByteArray), (⟨#[59]⟩ : ByteArray), (⟨#[58]⟩ : ByteArray), (⟨#[61]⟩ : ByteArray), (⟨#[33]⟩ : ByteArray), (⟨#[60]⟩ : ByteArray), (⟨#[62]⟩ : ByteArray), (⟨#[43]⟩ : ByteArray), (⟨#[45]⟩ : ByteArray), (⟨#[42]⟩ : ByteArray), (⟨#[47]⟩ : ByteArray), (⟨#[37]⟩ : ByteArray), (⟨#[38]⟩ : ByteArray), (⟨#[124]⟩ : ByteArray), (⟨#[94]⟩ : ByteArray), (⟨#[63]⟩ : ByteArray), (⟨#[46]⟩ : ByteArray)] : List ByteArray)) (inner := [.string (⟨#[61, 61]⟩ : ByteArray), .string (⟨#[33, 61]⟩ : ByteArray), .string (⟨#[60, 61]⟩ : ByteArray), .string (⟨#[62, 61]⟩ : ByteArray), .string (⟨#[43, 37]⟩ : ByteArray), .string (⟨#[43, 124]⟩ : ByteArray), .string (⟨#[45, 37]⟩ : ByteArray), .string (⟨#[45, 124]⟩ : ByteArray), .string (⟨#[42, 37]⟩ : ByteArray), .string (⟨#[46, 46]⟩ : ByteArray), .string (⟨#[46, 63]⟩ : ByteArray), .string (⟨#[61, 62]⟩ : ByteArray), .string (⟨#[40]⟩ : ByteArray), .string (⟨#[41]⟩ : ByteArray), .string (⟨#[123]⟩ : ByteArray), .string (⟨#[125]⟩ : ByteArray), .string (⟨#[44]⟩ : ByteArray), .string (⟨#[59]⟩ : ByteArray), .string (⟨#[58]⟩ : ByteArray), .string (⟨#[61]⟩ : ByteArray), .string (⟨#[33]⟩ : ByteArray), .string (⟨#[60]⟩ : ByteArray), .string (⟨#[62]⟩ : ByteArray), .string (⟨#[43]⟩ : ByteArray), .string (⟨#[45]⟩ : ByteArray), .string (⟨#[42]⟩ : ByteArray), .string (⟨#[47]⟩ : ByteArray), .string (⟨#[37]⟩ : ByteArray), .string (⟨#[38]⟩ : ByteArray), .string (⟨#[124]⟩ : ByteArray), .string (⟨#[94]⟩ : ByteArray), .string (⟨#[63]⟩ : ByteArray), .string (⟨#[46]⟩ : ByteArray)]) (ok := fun _ => True) (pz := fun _ => True) ?hr ?hp (fun _ hk => hk) trivial (Below.refl _ _) (Nat.le_refl _) (by simp) ?_; (case hd => rfl); (case hg => rfl); (case hr => first | (go_simp; done) | (go_simp; rfl)); (case hp => exact (dh.one (show Kd.M Kd.string _ _ _ (⟨#[61, 61]⟩ : ByteArray) [.string (⟨#[61, 61]⟩ : ByteArray)] from rfl) (dh.one (show Kd.M Kd.string _ _ _ (⟨#[33, 61]⟩ : ByteArray) [.string (⟨#[33, 61]⟩ : ByteArray)] from rfl) (dh.one (show Kd.M Kd.string _ _ _ (⟨#[60, 61]⟩ : ByteArray) [.string (⟨#[60, 61]⟩ : ByteArray)] from rfl) (dh.one (show Kd.M Kd.string _ _ _ (⟨#[62, 61]⟩ : ByteArray) [.string (⟨#[62, 61]⟩ : ByteArray)] from rfl) (dh.one (show Kd.M Kd.string _ _ _ (⟨#[43, 37]⟩ : ByteArray) [.string (⟨#[43, 37]⟩ : ByteArray)] from rfl) (dh.one (show Kd.M Kd.string _ _ _ (⟨#[43, 124]⟩ : ByteArray) [.string (⟨#[43, 124]⟩ : ByteArray)] from rfl) (dh.one (show Kd.M Kd.string _ _ _ (⟨#[45, 37]⟩ : ByteArray) [.string (⟨#[45, 37]⟩ : ByteArray)] from rfl) (dh.one (show Kd.M Kd.string _ _ _ (⟨#[45, 124]⟩ : ByteArray) [.string (⟨#[45, 124]⟩ : ByteArray)] from rfl) (dh.one (show Kd.M Kd.string _ _ _ (⟨#[42, 37]⟩ : ByteArray) [.string (⟨#[42, 37]⟩ : ByteArray)] from rfl) (dh.one (show Kd.M Kd.string _ _ _ (⟨#[46, 46]⟩ : ByteArray) [.string (⟨#[46, 46]⟩ : ByteArray)] from rfl) (dh.one (show Kd.M Kd.string _ _ _ (⟨#[46, 63]⟩ : ByteArray) [.string (⟨#[46, 63]⟩ : ByteArray)] from rfl) (dh.one (show Kd.M Kd.string _ _ _ (⟨#[61, 62]⟩ : ByteArray) [.string (⟨#[61, 62]⟩ : ByteArray)] from rfl) (dh.one (show Kd.M Kd.string _ _ _ (⟨#[40]⟩ : ByteArray) [.string (⟨#[40]⟩ : ByteArray)] from rfl) (dh.one (show Kd.M Kd.string _ _ _ (⟨#[41]⟩ : ByteArray) [.string (⟨#[41]⟩ : ByteArray)] from rfl) (dh.one (show Kd.M Kd.string _ _ _ (⟨#[123]⟩ : ByteArray) [.string (⟨#[123]⟩ : ByteArray)] from rfl) (dh.one (show Kd.M Kd.string _ _ _ (⟨#[125]⟩ : ByteArray) [.string (⟨#[125]⟩ : ByteArray)] from rfl) (dh.one (show Kd.M Kd.string _ _ _ (⟨#[44]⟩ : ByteArray) [.string (⟨#[44]⟩ : ByteArray)] from rfl) (dh.one (show Kd.M Kd.string _ _ _ (⟨#[59]⟩ : ByteArray) [.string (⟨#[59]⟩ : ByteArray)] from rfl) (dh.one (show Kd.M Kd.string _ _ _ (⟨#[58]⟩ : ByteArray) [.string (⟨#[58]⟩ : ByteArray)] from rfl) (dh.one (show Kd.M Kd.string _ _ _ (⟨#[61]⟩ : ByteArray) [.string (⟨#[61]⟩ : ByteArray)] from rfl) (dh.one (show Kd.M Kd.string _ _ _ (⟨#[33]⟩ : ByteArray) [.string (⟨#[33]⟩ : ByteArray)] from rfl) (dh.one (show Kd.M Kd.string _ _ _ (⟨#[60]⟩ : ByteArray) [.string (⟨#[60]⟩ : ByteArray)] from rfl) (dh.one (show Kd.M Kd.string _ _ _ (⟨#[62]⟩ : ByteArray) [.string (⟨#[62]⟩ : ByteArray)] from rfl) (dh.one (show Kd.M Kd.string _ _ _ (⟨#[43]⟩ : ByteArray) [.string (⟨#[43]⟩ : ByteArray)] from rfl) (dh.one (show Kd.M Kd.string _ _ _ (⟨#[45]⟩ : ByteArray) [.string (⟨#[45]⟩ : ByteArray)] from rfl) (dh.one (show Kd.M Kd.string _ _ _ (⟨#[42]⟩ : ByteArray) [.string (⟨#[42]⟩ : ByteArray)] from rfl) (dh.one (show Kd.M Kd.string _ _ _ (⟨#[47]⟩ : ByteArray) [.string (⟨#[47]⟩ : ByteArray)] from rfl) (dh.one (show Kd.M Kd.string _ _ _ (⟨#[37]⟩ : ByteArray) [.string (⟨#[37]⟩ : ByteArray)] from rfl) (dh.one (show Kd.M Kd.string _ _ _ (⟨#[38]⟩ : ByteArray) [.string (⟨#[38]⟩ : ByteArray)] from rfl) (dh.one (show Kd.M Kd.string _ _ _ (⟨#[124]⟩ : ByteArray) [.string (⟨#[124]⟩ : ByteArray)] from rfl) (dh.one (show Kd.M Kd.string _ _ _ (⟨#[94]⟩ : ByteArray) [.string (⟨#[94]⟩ : ByteArray)] from rfl) (dh.one (show Kd.M Kd.string _ _ _ (⟨#[63]⟩ : ByteArray) [.string (⟨#[63]⟩ : ByteArray)] from rfl) (dh.one (show Kd.M Kd.string _ _ _ (⟨#[46]⟩ : ByteArray) [.string (⟨#[46]⟩ : ByteArray)] from rfl) (dh.none _ _))))))))))))))))))))))))))))))))))); intro v182 w1 ho2 hb ND NG; clear ND NG; (first | rw [← TU.out] at ho2 | (simp only [Int.reduceToNat] at ho2; rw [← TU.out] at ho2)); have ay := am (Kd.sZ ho2 (bZ (by repeat (first | (with_reducible first | exact HB.out | apply bA | apply pN | apply au) | exact HB.out)))); have aA := am (bP (by repeat (first | (with_reducible first | exact HB.out | apply bA | apply pN | apply au) | exact HB.out)) hb); clear HB; have afl := ay; have HB := aA; clear ay aA; clear hb ho2))
 go_ret
 exact ⟨_, by first | rfl | (simp [aQ, aR] <;> rfl) | (simp [*, aQ, aR] <;> rfl), by (with_reducible repeat (first | apply Kd.kK | apply Kd.ku | apply Kd.kM)); exact afl.out, by repeat (first | (with_reducible first | exact HB.out | apply bA | apply pN | apply au) | exact HB.out)⟩
end Go.Proofs.YtgliaoanlhbepaaGreatDoor.Q
