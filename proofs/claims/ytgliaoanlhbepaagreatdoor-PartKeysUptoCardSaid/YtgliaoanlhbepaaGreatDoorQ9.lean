/- Walks, printed by a program of this session: what each function of the law computes. -/
import Derived.Test.YtgliaoanlhbepaaGreatDoorQ0
import Derived.Test.YtgliaoanlhbepaaGreatDoorQ8
namespace Go.Proofs.YtgliaoanlhbepaaGreatDoor.Q
open Go.RowKit Go.Proofs.bT.eG Go.Proofs.bT.iM Go.Proofs.bT.jd
open Go.Proofs.bT.eG renaming lF → pN, lZ → au, l6 → bA, mZ → bS, m_ → bZ, ng → bP, ni → kN, nk → kD, nu → kA, ny → fz, nA → kB, lH → kL
attribute [local go_sem] nC nD nE nG nH nI nJ nK
set_option maxHeartbeats 8000000
set_option maxRecDepth 100000
set_option linter.unusedVariables false
set_option linter.unusedSimpArgs false
mutual
noncomputable def fZ.l0 : Nat → Int → Int → ByteArray → Option (ByteArray)
 | 0, _, _, _ => none
 | k + 1, x0, x1, x5 => if x0 ≥ x1 then (if x1 = 0 then (none) else (if 0 ≤ (Int.tmod x0 x1) then (if (Int.tmod x0 x1) ≤ (wrap64 ((Int.tmod x0 x1) + 1)) then (if (wrap64 ((Int.tmod x0 x1) + 1)) ≤ 16 then (if ((⟨#[48, 49, 50, 51, 52, 53, 54, 55, 56, 57, 97, 98, 99, 100, 101, 102]⟩ : ByteArray).extract ((Int.tmod x0 x1) : Int).toNat ((wrap64 ((Int.tmod x0 x1) + 1)) : Int).toNat).size + x5.size ≤ 9223372036854775807 then (fZ.l0 k (wrap64 (Int.tdiv x0 x1)) x1 (((⟨#[48, 49, 50, 51, 52, 53, 54, 55, 56, 57, 97, 98, 99, 100, 101, 102]⟩ : ByteArray).extract ((Int.tmod x0 x1) : Int).toNat ((wrap64 ((Int.tmod x0 x1) + 1)) : Int).toNat) ++ x5)) else (none)) else (none)) else (none)) else (none))) else (if 0 ≤ x0 then (if x0 ≤ (wrap64 (x0 + 1)) then (if (wrap64 (x0 + 1)) ≤ 16 then (if ((⟨#[48, 49, 50, 51, 52, 53, 54, 55, 56, 57, 97, 98, 99, 100, 101, 102]⟩ : ByteArray).extract (x0 : Int).toNat ((wrap64 (x0 + 1)) : Int).toNat).size + x5.size ≤ 9223372036854775807 then (some (((⟨#[48, 49, 50, 51, 52, 53, 54, 55, 56, 57, 97, 98, 99, 100, 101, 102]⟩ : ByteArray).extract (x0 : Int).toNat ((wrap64 (x0 + 1)) : Int).toNat) ++ x5)) else (none)) else (none)) else (none)) else (none))
noncomputable def fZ.f : Nat → Int → Int → Option (ByteArray)
 | 0, _, _ => none
 | k + 1, a0, a1 => if a0 < 0 then ((fZ.f k (wrap64 (-a0)) a1).bind fun t216 => (if 1 + t216.size ≤ 9223372036854775807 then (some ((⟨#[45]⟩ : ByteArray) ++ t216)) else (none))) else (fZ.l0 k a0 a1 (⟨#[]⟩ : ByteArray))
end
theorem fZ.gy : ∀ k, (∀ y0 y1, aN (fZ.f k y0 y1) (fZ.f (k + 1) y0 y1)) ∧ (∀ y0 y1 y2, aN (fZ.l0 k y0 y1 y2) (fZ.l0 (k + 1) y0 y1 y2))
 | 0 => ⟨fun _ _ r h => by simp [fZ.f] at h, fun _ _ _ r h => by simp [fZ.l0] at h⟩
 | k + 1 => by
  obtain ⟨cZ, ih1⟩ := fZ.gy k
  refine ⟨?_, ?_⟩
  ·intro y0 y1
   unfold fZ.f
   repeat' first
   | (with_reducible exact cZ _ _)
   | (with_reducible exact ih1 _ _ _)
   | (with_reducible exact aN.refl _)
   | (with_reducible exact aN.none _)
   | (with_reducible refine aN.ite ?_ ?_)
   | (with_reducible refine aN.bind ?_ (fun _ => ?_))
   | exact cZ _ _
   | exact ih1 _ _ _
   | exact aN.none _
   | refine aN.ite ?_ ?_
   | refine aN.bind ?_ (fun _ => ?_)
  ·intro y0 y1 y2
   unfold fZ.l0
   repeat' first
   | (with_reducible exact cZ _ _)
   | (with_reducible exact ih1 _ _ _)
   | (with_reducible exact aN.refl _)
   | (with_reducible exact aN.none _)
   | (with_reducible refine aN.ite ?_ ?_)
   | (with_reducible refine aN.bind ?_ (fun _ => ?_))
   | exact cZ _ _
   | exact ih1 _ _ _
   | exact aN.none _
   | refine aN.ite ?_ ?_
   | refine aN.bind ?_ (fun _ => ?_)
theorem fZ.mono : ∀ a0 a1 k, aN (fZ.f k a0 a1) (fZ.f (k + 1) a0 a1) := by
 intro a0 a1 k
 obtain ⟨cZ, ih1⟩ := fZ.gy k
 exact cZ a0 a1
theorem fZ.calls (k : Nat) : ∀ (a0 : Int) (a1 : Int) (r : ByteArray) (w : World) (h : fZ.f k a0 a1 = some r),
 Calls Tryz.prog 76 #[.int .i64 a0, .int .i64 a1] w fun e w' => e = .returned (.string r) ∧ bB w w' := by
 induction k using Nat.strongRecOn with
 | _ k ih =>
 intro a0 a1 r w h
 cases k with
 | zero => exact absurd h (by simp [fZ.f])
 | succ k =>
 simp only [fZ.f] at h
 have H : (if a0 < 0 then ((fZ.f k (wrap64 (-a0)) a1).bind fun t216 => (if 1 + t216.size ≤ 9223372036854775807 then (some ((⟨#[45]⟩ : ByteArray) ++ t216)) else (none))) else (fZ.l0 k a0 a1 (⟨#[]⟩ : ByteArray))) = some r := h
 clear h
 by_cases c3 : a0 < 0
 ·rw [if_pos c3] at H
  have gH : decide (a0 < 0) = true := decide_eq_true c3
  clear c3
  replace H := Option.bind_eq_some_iff.mp H
  obtain ⟨t216, kX, H⟩ := H
  replace H : (if 1 + t216.size ≤ 9223372036854775807 then (some ((⟨#[45]⟩ : ByteArray) ++ t216)) else (none)) = some r := H
  have A4 := am kX
  clear kX
  by_cases c5 : 1 + t216.size ≤ 9223372036854775807
  ·rw [if_pos c5] at H
   have g_ := eq_true c5
   have kW : decide (1 + t216.size ≤ 9223372036854775807) = true := decide_eq_true c5
   try have MP : (9223372036854775807 < 1 + t216.size) = False := eq_false (Nat.not_lt.2 c5)
   obtain rfl := Option.some.inj H
   go_enter Tryz.func76, Tryz.ntmps76
   go_wp2_with (first | (go_at_call 76; (with_reducible refine (ih k (by omega) (wrap64 (-a0)) a1 t216 _ A4.out).mono ?_); rintro e w' ⟨rfl, ⟨nd, rfl⟩⟩; (try first | exact ⟨rfl, _, World.drewN_drewN _ _ _⟩ | exact ⟨rfl, _, Eq.trans (World.drewN_drewN _ _ _) (congrArg (World.drewN _) (Nat.add_assoc _ _ _))⟩)))
   repeat (go_quiet (first | (go_at_call 76; (with_reducible refine (ih k (by omega) (wrap64 (-a0)) a1 t216 _ A4.out).mono ?_); rintro e w' ⟨rfl, ⟨nd, rfl⟩⟩; (try first | exact ⟨rfl, _, World.drewN_drewN _ _ _⟩ | exact ⟨rfl, _, Eq.trans (World.drewN_drewN _ _ _) (congrArg (World.drewN _) (Nat.add_assoc _ _ _))⟩))); try go_wp2_with (first | (go_at_call 76; (with_reducible refine (ih k (by omega) (wrap64 (-a0)) a1 t216 _ A4.out).mono ?_); rintro e w' ⟨rfl, ⟨nd, rfl⟩⟩; (try first | exact ⟨rfl, _, World.drewN_drewN _ _ _⟩ | exact ⟨rfl, _, Eq.trans (World.drewN_drewN _ _ _) (congrArg (World.drewN _) (Nat.add_assoc _ _ _))⟩))))
   go_ret
   exact ⟨by first | rfl | (simp; done) | (simp [*]; done), by repeat (first | exact bB.refl _ | apply bB.step)⟩
  ·rw [if_neg c5] at H
   exact absurd H (by simp)
 ·rw [if_neg c3] at H
  have gH : decide (a0 < 0) = false := decide_eq_false c3
  clear c3
  have H' := am H
  clear H
  go_enter Tryz.func76, Tryz.ntmps76
  go_wp2
  repeat (go_quiet (fail); try go_wp2)
  go_loopg [0, 5] k (fun kq v0 v5 w' => ∃ (fK : Int) (dw : ByteArray), v0 = .int .i64 fK ∧ v5 = .string dw ∧ bI (fZ.l0 kq fK a1 dw = some r) ∧ bI (kq ≤ k) ∧ bB w w')
  case atStart => exact ⟨(a0), ((⟨#[]⟩ : ByteArray)), (by first | rfl | (simp; done) | (simp [*]; done)), (by first | rfl | (simp; done) | (simp [*]; done)), H', ⟨Nat.le_refl _⟩, by repeat (first | exact bB.refl _ | apply bB.step)⟩
  case round =>
   clear H'
   try clear p2
   try clear c3
   try clear gH
   try clear c5
   try clear g_
   try clear kW
   try clear MP
   obtain ⟨fK, dw, rfl, rfl, HA, eu, ⟨m1, rfl⟩⟩ := hrel
   cases gk with
   | zero => exact absurd HA.out (by simp [fZ.l0])
   | succ k1 =>
    have H := HA.out
    clear HA
    simp only [fZ.l0] at H
    by_cases c6 : fK ≥ a1
    ·rw [if_pos c6] at H
     have gT : decide (a1 ≤ fK) = true := decide_eq_true c6
     clear c6
     by_cases c7 : a1 = 0
     ·rw [if_pos c7] at H
      exact absurd H (by simp)
     ·rw [if_neg c7] at H
      have iB : (a1 == 0) = false := beq_eq_false_iff_ne.mpr c7
      have j5 : (a1 != 0) = true := bne_iff_ne.mpr c7
      obtain ⟨fV, zS⟩ : ∃ j_ : Int, (Int.tmod fK a1) = j_ := ⟨_, rfl⟩
      replace H : (if 0 ≤ (fV) then (if (fV) ≤ (wrap64 ((fV) + 1)) then (if (wrap64 ((fV) + 1)) ≤ 16 then (if ((⟨#[48, 49, 50, 51, 52, 53, 54, 55, 56, 57, 97, 98, 99, 100, 101, 102]⟩ : ByteArray).extract ((fV) : Int).toNat ((wrap64 ((fV) + 1)) : Int).toNat).size + dw.size ≤ 9223372036854775807 then (fZ.l0 k1 (wrap64 (Int.tdiv fK a1)) a1 (((⟨#[48, 49, 50, 51, 52, 53, 54, 55, 56, 57, 97, 98, 99, 100, 101, 102]⟩ : ByteArray).extract ((fV) : Int).toNat ((wrap64 ((fV) + 1)) : Int).toNat) ++ dw)) else (none)) else (none)) else (none)) else (none)) = some r := by first | (rw [zS] at H; exact H) | (simp only [zS] at H ⊢; exact H)
      by_cases c9 : 0 ≤ (fV)
      ·rw [if_pos c9] at H
       have Ck := eq_true c9
       have Hg : decide (0 ≤ (fV)) = true := decide_eq_true c9
       clear c9
       by_cases c10 : (fV) ≤ (wrap64 ((fV) + 1))
       ·rw [if_pos c10] at H
        have zT := eq_true c10
        have M_ : decide ((fV) ≤ (wrap64 ((fV) + 1))) = true := decide_eq_true c10
        by_cases c11 : (wrap64 ((fV) + 1)) ≤ 16
        ·rw [if_pos c11] at H
         have og := eq_true c11
         have oZ : decide ((wrap64 ((fV) + 1)) ≤ 16) = true := decide_eq_true c11
         by_cases c12 : ((⟨#[48, 49, 50, 51, 52, 53, 54, 55, 56, 57, 97, 98, 99, 100, 101, 102]⟩ : ByteArray).extract ((fV) : Int).toNat ((wrap64 ((fV) + 1)) : Int).toNat).size + dw.size ≤ 9223372036854775807
         ·rw [if_pos c12] at H
          have wT := eq_true c12
          have wU : decide (((⟨#[48, 49, 50, 51, 52, 53, 54, 55, 56, 57, 97, 98, 99, 100, 101, 102]⟩ : ByteArray).extract ((fV) : Int).toNat ((wrap64 ((fV) + 1)) : Int).toNat).size + dw.size ≤ 9223372036854775807) = true := decide_eq_true c12
          try have SK : (9223372036854775807 < ((⟨#[48, 49, 50, 51, 52, 53, 54, 55, 56, 57, 97, 98, 99, 100, 101, 102]⟩ : ByteArray).extract ((fV) : Int).toNat ((wrap64 ((fV) + 1)) : Int).toNat).size + dw.size) = False := eq_false (Nat.not_lt.2 c12)
          have H' := am H
          clear H
          go_wp2
          repeat (go_quiet (fail); try go_wp2)
          go_roundg k1
          case measure => have := eu.out; omega
          case rel => exact ⟨(wrap64 (Int.tdiv fK a1)), (((⟨#[48, 49, 50, 51, 52, 53, 54, 55, 56, 57, 97, 98, 99, 100, 101, 102]⟩ : ByteArray).extract ((fV) : Int).toNat ((wrap64 ((fV) + 1)) : Int).toNat) ++ dw), (by first | rfl | (simp; done) | (simp [*]; done)), (by first | rfl | (simp; done) | (simp only [← zS] <;> (first | rfl | simp)) | (simp [*]; done)), H', ⟨by have := eu.out; omega⟩, by repeat (first | exact bB.refl _ | apply bB.step)⟩
         ·rw [if_neg c12] at H
          exact absurd H (by simp)
        ·rw [if_neg c11] at H
         exact absurd H (by simp)
       ·rw [if_neg c10] at H
        exact absurd H (by simp)
      ·rw [if_neg c9] at H
       exact absurd H (by simp)
    ·rw [if_neg c6] at H
     have gT : decide (a1 ≤ fK) = false := decide_eq_false c6
     clear c6
     by_cases c13 : 0 ≤ fK
     ·rw [if_pos c13] at H
      have kY := eq_true c13
      have zH : decide (0 ≤ fK) = true := decide_eq_true c13
      clear c13
      by_cases c14 : fK ≤ (wrap64 (fK + 1))
      ·rw [if_pos c14] at H
       have Cm := eq_true c14
       have Nc : decide (fK ≤ (wrap64 (fK + 1))) = true := decide_eq_true c14
       by_cases c15 : (wrap64 (fK + 1)) ≤ 16
       ·rw [if_pos c15] at H
        have sV := eq_true c15
        have xw : decide ((wrap64 (fK + 1)) ≤ 16) = true := decide_eq_true c15
        by_cases c16 : ((⟨#[48, 49, 50, 51, 52, 53, 54, 55, 56, 57, 97, 98, 99, 100, 101, 102]⟩ : ByteArray).extract (fK : Int).toNat ((wrap64 (fK + 1)) : Int).toNat).size + dw.size ≤ 9223372036854775807
        ·rw [if_pos c16] at H
         have Ef := eq_true c16
         have LQ : decide (((⟨#[48, 49, 50, 51, 52, 53, 54, 55, 56, 57, 97, 98, 99, 100, 101, 102]⟩ : ByteArray).extract (fK : Int).toNat ((wrap64 (fK + 1)) : Int).toNat).size + dw.size ≤ 9223372036854775807) = true := decide_eq_true c16
         try have LU : (9223372036854775807 < ((⟨#[48, 49, 50, 51, 52, 53, 54, 55, 56, 57, 97, 98, 99, 100, 101, 102]⟩ : ByteArray).extract (fK : Int).toNat ((wrap64 (fK + 1)) : Int).toNat).size + dw.size) = False := eq_false (Nat.not_lt.2 c16)
         obtain rfl := Option.some.inj H
         go_wp2
         repeat (go_quiet (fail); try go_wp2)
         go_ret
         exact ⟨by first | rfl | (simp; done) | (simp [*]; done), by repeat (first | exact bB.refl _ | apply bB.step)⟩
        ·rw [if_neg c16] at H
         exact absurd H (by simp)
       ·rw [if_neg c15] at H
        exact absurd H (by simp)
      ·rw [if_neg c14] at H
       exact absurd H (by simp)
     ·rw [if_neg c13] at H
      exact absurd H (by simp)
noncomputable def jS.f (k : Nat) (a0 : Int) : Option (ByteArray) := (fZ.f k a0 10).bind fun t217 => (some t217)
theorem jS.mono : ∀ a0 k, aN (jS.f k a0) (jS.f (k + 1) a0) := by
 intro a0 k
 unfold jS.f
 repeat' first
  | (with_reducible exact fZ.mono _ _ _)
  | (with_reducible exact aN.refl _)
  | (with_reducible exact aN.none _)
  | (with_reducible refine aN.ite ?_ ?_)
  | (with_reducible refine aN.bind ?_ (fun _ => ?_))
  | exact fZ.mono _ _ _
  | exact aN.none _
  | refine aN.ite ?_ ?_
  | refine aN.bind ?_ (fun _ => ?_)
theorem jS.calls (k : Nat) (a0 : Int) (r : ByteArray) (w : World) (h : jS.f k a0 = some r) :
 Calls Tryz.prog 46 #[.int .i64 a0] w fun e w' => e = .returned (.string r) ∧ bB w w' := by
 have H : ((fZ.f k a0 10).bind fun t217 => (some t217)) = some r := h
 clear h
 replace H := Option.bind_eq_some_iff.mp H
 obtain ⟨t217, f_, H⟩ := H
 replace H : (some t217) = some r := H
 have A2 := am f_
 clear f_
 obtain rfl := Option.some.inj H
 go_enter Tryz.func46, Tryz.ntmps46
 go_wp2_with (first | ((with_reducible refine bY (f := 76) rfl ?_); refine b_ (some 4) rfl rfl Tryz.func76 (by kernel_rfl) rfl #[.int .i64 a0, .int .i64 10] rfl (by (try simp only [List.map_toArray, List.map_cons, List.map_nil]); first | done | rfl | (simp only [List.length_drop, List.length_take]; rfl)) ?_; (with_reducible refine (fZ.calls k a0 10 t217 _ A2.out).mono ?_); rintro e w' ⟨rfl, ⟨nd, rfl⟩⟩; refine ⟨_, rfl, ?_⟩))
 go_ret
 exact ⟨by first | rfl | (simp; done) | (simp [*]; done), by repeat (first | exact bB.refl _ | apply bB.step)⟩
noncomputable def jk.f (k : Nat) (ah : Bool) (av : Int) : Option (ByteArray) := if ah = true then ((jS.f k av).bind fun t219 => (if 1 + t219.size ≤ 9223372036854775807 then (some ((⟨#[105]⟩ : ByteArray) ++ t219)) else (none))) else ((jS.f k av).bind fun t220 => (if 1 + t220.size ≤ 9223372036854775807 then (some ((⟨#[117]⟩ : ByteArray) ++ t220)) else (none)))
theorem jk.mono : ∀ a0 a1 k, aN (jk.f k a0 a1) (jk.f (k + 1) a0 a1) := by
 intro a0 a1 k
 unfold jk.f
 repeat' first
  | (with_reducible exact jS.mono _ _)
  | (with_reducible exact aN.refl _)
  | (with_reducible exact aN.none _)
  | (with_reducible refine aN.ite ?_ ?_)
  | (with_reducible refine aN.bind ?_ (fun _ => ?_))
  | exact jS.mono _ _
  | exact aN.none _
  | refine aN.ite ?_ ?_
  | refine aN.bind ?_ (fun _ => ?_)
theorem jk.calls (k : Nat) (ah : Bool) (av : Int) (r : ByteArray) (w : World) (h : jk.f k ah av = some r) :
 Calls Tryz.prog 143 #[.agg #[.bool ah, .int .i64 av]] w fun e w' => e = .returned (.string r) ∧ Below w.heap.size w w' := by
 have mg := Tryz.underlying48
 have HB := am (Below.refl w.heap.size w)
 have H : (if ah = true then ((jS.f k av).bind fun t219 => (if 1 + t219.size ≤ 9223372036854775807 then (some ((⟨#[105]⟩ : ByteArray) ++ t219)) else (none))) else ((jS.f k av).bind fun t220 => (if 1 + t220.size ≤ 9223372036854775807 then (some ((⟨#[117]⟩ : ByteArray) ++ t220)) else (none)))) = some r := h
 clear h
 by_cases c2 : ah = true
 ·subst c2
  have H1 : ((jS.f k av).bind fun t219 => (if 1 + t219.size ≤ 9223372036854775807 then (some ((⟨#[105]⟩ : ByteArray) ++ t219)) else (none))) = some r := by rw [if_pos rfl] at H; exact H
  clear H
  have H := H1
  clear H1
  replace H := Option.bind_eq_some_iff.mp H
  obtain ⟨t219, fH, H⟩ := H
  replace H : (if 1 + t219.size ≤ 9223372036854775807 then (some ((⟨#[105]⟩ : ByteArray) ++ t219)) else (none)) = some r := H
  have A3 := am fH
  clear fH
  by_cases c4 : 1 + t219.size ≤ 9223372036854775807
  ·rw [if_pos c4] at H
   have fJ := eq_true c4
   have uM : decide (1 + t219.size ≤ 9223372036854775807) = true := decide_eq_true c4
   try have ac4 : (9223372036854775807 < 1 + t219.size) = False := eq_false (Nat.not_lt.2 c4)
   obtain rfl := Option.some.inj H
   go_enter Tryz.func143, Tryz.ntmps143
   go_wp2_with (first | ((with_reducible refine cK (N := 1) rfl ?_); refine cO ?hg (N := 1) ?hd (cs := #[.bool true, .int .i64 av]) (t := 48) ?hr ?_; (case hd => rfl); (case hg => rfl); (case hr => first | (go_simp; done) | (go_simp; rfl)); intro ET hg w5 aV hb; have ay := am (bP (by repeat (first | (with_reducible first | exact HB.out | apply bA | apply pN | apply au) | exact HB.out)) hb); have aA := am (aV); have aK := am ((by rw [hg]; exact (bZ (by repeat (first | (with_reducible first | exact HB.out | apply bA | apply pN | apply au) | exact HB.out))) : w.heap.size ≤ ET)); have aU := am ((by rw [hg]; exact (bZ (by repeat (first | (with_reducible first | exact HB.out | apply bA | apply pN | apply au) | exact HB.out))) : w.heap.size ≤ ET)); clear HB; have HB := ay; have vR := aA; have afK := aK; have NV := aU; clear ay aA aK aU; clear hb aV hg; have := cz vR.out 0 rfl; have := cz vR.out 1 rfl; have := fz vR.out 0; have := fz vR.out 1) | ((with_reducible refine bY (f := 46) rfl ?_); refine b_ (some 7) rfl rfl Tryz.func46 (by kernel_rfl) rfl #[.int .i64 av] rfl (by (try simp only [List.map_toArray, List.map_cons, List.map_nil]); first | done | rfl | (simp only [List.length_drop, List.length_take]; rfl)) ?_; (with_reducible refine (jS.calls k av t219 _ A3.out).mono ?_); rintro e w' ⟨rfl, ⟨nd, rfl⟩⟩; refine ⟨_, rfl, ?_⟩))
   go_ret
   exact ⟨by first | rfl | (simp [aQ, aR] <;> rfl) | (simp [*, aQ, aR] <;> rfl), by repeat (first | (with_reducible first | exact HB.out | apply bA | apply pN | apply au | refine bS ?_ NV.out) | exact HB.out)⟩
  ·rw [if_neg c4] at H
   exact absurd H (by simp)
 ·replace c2 := Bool.eq_false_iff.mpr c2
  subst c2
  have H1 : ((jS.f k av).bind fun t220 => (if 1 + t220.size ≤ 9223372036854775807 then (some ((⟨#[117]⟩ : ByteArray) ++ t220)) else (none))) = some r := by rw [if_neg (show ¬ (false = true) by decide)] at H; exact H
  clear H
  have H := H1
  clear H1
  replace H := Option.bind_eq_some_iff.mp H
  obtain ⟨t220, wS, H⟩ := H
  replace H : (if 1 + t220.size ≤ 9223372036854775807 then (some ((⟨#[117]⟩ : ByteArray) ++ t220)) else (none)) = some r := H
  have A7 := am wS
  clear wS
  by_cases c8 : 1 + t220.size ≤ 9223372036854775807
  ·rw [if_pos c8] at H
   have l8 := eq_true c8
   have l9 : decide (1 + t220.size ≤ 9223372036854775807) = true := decide_eq_true c8
   try have auF : (9223372036854775807 < 1 + t220.size) = False := eq_false (Nat.not_lt.2 c8)
   obtain rfl := Option.some.inj H
   go_enter Tryz.func143, Tryz.ntmps143
   go_wp2_with (first | ((with_reducible refine cK (N := 1) rfl ?_); refine cO ?hg (N := 1) ?hd (cs := #[.bool false, .int .i64 av]) (t := 48) ?hr ?_; (case hd => rfl); (case hg => rfl); (case hr => first | (go_simp; done) | (go_simp; rfl)); intro ET hg w9 aV hb; have ay := am (bP (by repeat (first | (with_reducible first | exact HB.out | apply bA | apply pN | apply au) | exact HB.out)) hb); have aA := am (aV); have aK := am ((by rw [hg]; exact (bZ (by repeat (first | (with_reducible first | exact HB.out | apply bA | apply pN | apply au) | exact HB.out))) : w.heap.size ≤ ET)); have aU := am ((by rw [hg]; exact (bZ (by repeat (first | (with_reducible first | exact HB.out | apply bA | apply pN | apply au) | exact HB.out))) : w.heap.size ≤ ET)); clear HB; have HB := ay; have vR := aA; have afK := aK; have NV := aU; clear ay aA aK aU; clear hb aV hg; have := cz vR.out 0 rfl; have := cz vR.out 1 rfl; have := fz vR.out 0; have := fz vR.out 1) | ((with_reducible refine bY (f := 46) rfl ?_); refine b_ (some 11) rfl rfl Tryz.func46 (by kernel_rfl) rfl #[.int .i64 av] rfl (by (try simp only [List.map_toArray, List.map_cons, List.map_nil]); first | done | rfl | (simp only [List.length_drop, List.length_take]; rfl)) ?_; (with_reducible refine (jS.calls k av t220 _ A7.out).mono ?_); rintro e w' ⟨rfl, ⟨nd, rfl⟩⟩; refine ⟨_, rfl, ?_⟩))
   go_ret
   exact ⟨by first | rfl | (simp [aQ, aR] <;> rfl) | (simp [*, aQ, aR] <;> rfl), by repeat (first | (with_reducible first | exact HB.out | apply bA | apply pN | apply au | refine bS ?_ NV.out) | exact HB.out)⟩
  ·rw [if_neg c8] at H
   exact absurd H (by simp)
noncomputable def gI.l0 : Nat → ByteArray → Int → Option (Bool × Int × Int)
 | 0, _, _ => none
 | k + 1, x0, x4 => if x4 ≤ 31 then ((jk.f k false x4).bind fun t224 => (if t224.toList = x0.toList then (some (false, x4, 0)) else ((jk.f k true x4).bind fun t225 => (if t225.toList = x0.toList then (some (true, x4, 0)) else (gI.l0 k x0 (wrap64 (x4 + 1))))))) else (some (false, 0, 2))
noncomputable def gI.f (k : Nat) (a0 : ByteArray) : Option (Bool × Int × Int) := gI.l0 k a0 1
theorem gI.gy : ∀ k, (∀ y0 y1, aN (gI.l0 k y0 y1) (gI.l0 (k + 1) y0 y1))
 | 0 => fun _ _ r h => by simp [gI.l0] at h
 | k + 1 => by
  have cZ := gI.gy k
  ·intro y0 y1
   unfold gI.l0
   repeat' first
   | (with_reducible exact cZ _ _)
   | (with_reducible exact jk.mono _ _ _)
   | (with_reducible exact aN.refl _)
   | (with_reducible exact aN.none _)
   | (with_reducible refine aN.ite ?_ ?_)
   | (with_reducible refine aN.bind ?_ (fun _ => ?_))
   | exact cZ _ _
   | exact jk.mono _ _ _
   | exact aN.none _
   | refine aN.ite ?_ ?_
   | refine aN.bind ?_ (fun _ => ?_)
theorem gI.mono : ∀ a0 k, aN (gI.f k a0) (gI.f (k + 1) a0) := by
 intro a0 k
 have cZ := gI.gy k
 unfold gI.f
 repeat' first
  | (with_reducible exact cZ _ _)
  | (with_reducible exact jk.mono _ _ _)
  | (with_reducible exact aN.refl _)
  | (with_reducible exact aN.none _)
  | (with_reducible refine aN.ite ?_ ?_)
  | (with_reducible refine aN.bind ?_ (fun _ => ?_))
  | exact cZ _ _
  | exact jk.mono _ _ _
  | exact aN.none _
  | refine aN.ite ?_ ?_
  | refine aN.bind ?_ (fun _ => ?_)
theorem gI.calls (k : Nat) (a0 : ByteArray) (r1 : Bool) (r2 : Int) (r3 : Int) (w : World) (h : gI.f k a0 = some (r1, r2, r3)) :
 Calls Tryz.prog 142 #[.string a0] w fun e w' => e = .returned (.tuple #[.agg #[.bool r1, .int .i64 r2], .int .i64 r3]) ∧ Below w.heap.size w w' := by
 have mg := Tryz.underlying48
 have HB := am (Below.refl w.heap.size w)
 have H : (gI.l0 k a0 1) = some (r1, r2, r3) := h
 clear h
 have H' := am H
 clear H
 go_enter Tryz.func142, Tryz.ntmps142
 go_wp2_with (first | ((with_reducible refine cK (N := 2) rfl ?_); refine cO ?hg (N := 2) ?hd (cs := #[.bool false, .int .i64 0]) (t := 48) ?hr ?_; (case hd => rfl); (case hg => rfl); (case hr => first | (go_simp; done) | (go_simp; rfl)); intro fT hg w2 aV hb; have ay := am (bP (by repeat (first | (with_reducible first | exact HB.out | apply bA | apply pN | apply au) | exact HB.out)) hb); have aA := am (aV); have aK := am ((by rw [hg]; exact (bZ (by repeat (first | (with_reducible first | exact HB.out | apply bA | apply pN | apply au) | exact HB.out))) : w.heap.size ≤ fT)); have aU := am ((by rw [hg]; exact (bZ (by repeat (first | (with_reducible first | exact HB.out | apply bA | apply pN | apply au) | exact HB.out))) : w.heap.size ≤ fT)); clear HB; have HB := ay; have dO := aA; have auG := aK; have iL := aU; clear ay aA aK aU; clear hb aV hg))
 go_loopg [4] k (fun kq v4 w' => ∃ (dD : Int) (iJ : Bool) (iq : Int), v4 = .int .i64 dD ∧ bI (gI.l0 kq a0 dD = some (r1, r2, r3)) ∧ bI (kq ≤ k) ∧ bI (w'.heap[fT]? = some (.cells #[.bool iJ, .int .i64 iq] 48 (0, 0))) ∧ bI (Below w.heap.size w w'))
 case atStart => exact ⟨(1), (false), (0), (by first | rfl | (simp; done) | (simp [*]; done)), H', ⟨Nat.le_refl _⟩, ⟨by (with_reducible repeat (first | apply kN | apply kD | apply kA)); exact dO.out⟩, ⟨by repeat (first | (with_reducible first | exact HB.out | apply bA | apply pN | apply au | refine bS ?_ iL.out) | exact HB.out)⟩⟩
 case round =>
  clear H'
  try clear c1
  try clear p2
  obtain ⟨dD, iJ, iq, rfl, HA, eu, dO, HB⟩ := hrel
  cases gk with
  | zero => exact absurd HA.out (by simp [gI.l0])
  | succ k1 =>
   have H := HA.out
   clear HA
   simp only [gI.l0] at H
   by_cases c3 : dD ≤ 31
   ·rw [if_pos c3] at H
    have gH : decide (dD ≤ 31) = true := decide_eq_true c3
    clear c3
    replace H := Option.bind_eq_some_iff.mp H
    obtain ⟨t224, kX, H⟩ := H
    replace H : (if t224.toList = a0.toList then (some (false, dD, 0)) else ((jk.f k1 true dD).bind fun t225 => (if t225.toList = a0.toList then (some (true, dD, 0)) else (gI.l0 k1 a0 (wrap64 (dD + 1)))))) = some (r1, r2, r3) := H
    have A4 := am kX
    clear kX
    by_cases c5 : t224.toList = a0.toList
    ·rw [if_pos c5] at H
     have g_ : (t224.toList == a0.toList) = true := beq_iff_eq.mpr c5
     have kW : (t224.toList != a0.toList) = false := bne_eq_false_iff_eq.mpr c5
     clear c5
     simp only [Option.some.injEq, Prod.mk.injEq] at H
     obtain ⟨rfl, rfl, rfl⟩ := H
     go_wp2_with (first | ((with_reducible refine cK (N := 5) rfl ?_); refine cO ?hg (N := 5) ?hd (cs := #[.bool false, .int .i64 0]) (t := 48) ?hr ?_; (case hd => rfl); (case hg => rfl); (case hr => first | (go_simp; done) | (go_simp; rfl)); intro gP hg w6 aV hb; have ay := am (kB (g := fT) (o := .cells #[.bool iJ, .int .i64 iq] 48 (0, 0)) (by (with_reducible repeat (first | apply kN | apply kD | apply kA)); exact dO.out) hb); have aA := am (bP (by repeat (first | (with_reducible first | exact HB.out | apply bA | apply pN | apply au | refine bS ?_ iL.out) | exact HB.out)) hb); have aK := am (aV); have aU := am ((by rw [hg]; exact (bZ (by repeat (first | (with_reducible first | exact HB.out | apply bA | apply pN | apply au | refine bS ?_ iL.out) | exact HB.out))) : w.heap.size ≤ gP)); have dZ := am ((by rw [hg]; exact (bZ (by repeat (first | (with_reducible first | exact HB.out | apply bA | apply pN | apply au | refine bS ?_ iL.out) | exact HB.out))) : w.heap.size ≤ gP)); have eH := am ((by rw [hg]; exact Nat.ne_of_lt (kL (g := fT) (o := .cells #[.bool iJ, .int .i64 iq] 48 (0, 0)) (by (with_reducible repeat (first | apply kN | apply kD | apply kA)); exact dO.out)) : fT ≠ gP)); have eO := am ((by rw [hg]; exact Nat.ne_of_gt (kL (g := fT) (o := .cells #[.bool iJ, .int .i64 iq] 48 (0, 0)) (by (with_reducible repeat (first | apply kN | apply kD | apply kA)); exact dO.out)) : gP ≠ fT)); clear dO; clear HB; have dO := ay; have HB := aA; have dV := aK; have Ub := aU; have kP := dZ; have jC := eH; have EU := eO; clear ay aA aK aU dZ eH eO; clear hb aV hg; have auH := EU.out; have auI := jC.out; have := cz dV.out 0 rfl; have := cz dV.out 1 rfl; have := fz dV.out 0; have := fz dV.out 1) | ((with_reducible refine cK (N := 6) rfl ?_); refine cO ?hg (N := 6) ?hd (cs := #[.bool false, .int .i64 0]) (t := 48) ?hr ?_; (case hd => rfl); (case hg => rfl); (case hr => first | (go_simp; done) | (go_simp; rfl)); intro jg hg w9 aV hb; have ay := am (kB (g := fT) (o := .cells #[.bool iJ, .int .i64 iq] 48 (0, 0)) (by (with_reducible repeat (first | apply kN | apply kD | apply kA)); refine dK ?_ jC.out _; (with_reducible repeat (first | apply kN | apply kD | apply kA)); refine dK ?_ jC.out _; (with_reducible repeat (first | apply kN | apply kD | apply kA)); exact dO.out) hb); have aA := am (kB (g := gP) (o := .cells #[.bool false, .int .i64 dD] 48 (0, 0)) (by (with_reducible repeat (first | apply kN | apply kD | apply kA)); refine bX (cs := #[.bool false, .int .i64 0]) ?_ 1 _ rfl; (with_reducible repeat (first | apply kN | apply kD | apply kA)); refine bX (cs := #[.bool false, .int .i64 0]) ?_ 0 _ rfl; (with_reducible repeat (first | apply kN | apply kD | apply kA)); exact dV.out) hb); have aK := am (bP (by repeat (first | (with_reducible first | exact HB.out | apply bA | apply pN | apply au | refine bS ?_ iL.out | refine bS ?_ kP.out) | exact HB.out)) hb); have aU := am (aV); have dZ := am ((by rw [hg]; exact (bZ (by repeat (first | (with_reducible first | exact HB.out | apply bA | apply pN | apply au | refine bS ?_ iL.out | refine bS ?_ kP.out) | exact HB.out))) : w.heap.size ≤ jg)); have eH := am ((by rw [hg]; exact (bZ (by repeat (first | (with_reducible first | exact HB.out | apply bA | apply pN | apply au | refine bS ?_ iL.out | refine bS ?_ kP.out) | exact HB.out))) : w.heap.size ≤ jg)); have eO := am ((by rw [hg]; exact Nat.ne_of_lt (kL (g := fT) (o := .cells #[.bool iJ, .int .i64 iq] 48 (0, 0)) (by (with_reducible repeat (first | apply kN | apply kD | apply kA)); refine dK ?_ jC.out _; (with_reducible repeat (first | apply kN | apply kD | apply kA)); refine dK ?_ jC.out _; (with_reducible repeat (first | apply kN | apply kD | apply kA)); exact dO.out)) : fT ≠ jg)); have j6 := am ((by rw [hg]; exact Nat.ne_of_gt (kL (g := fT) (o := .cells #[.bool iJ, .int .i64 iq] 48 (0, 0)) (by (with_reducible repeat (first | apply kN | apply kD | apply kA)); refine dK ?_ jC.out _; (with_reducible repeat (first | apply kN | apply kD | apply kA)); refine dK ?_ jC.out _; (with_reducible repeat (first | apply kN | apply kD | apply kA)); exact dO.out)) : jg ≠ fT)); have kg := am ((by rw [hg]; exact Nat.ne_of_lt (kL (g := gP) (o := .cells #[.bool false, .int .i64 dD] 48 (0, 0)) (by (with_reducible repeat (first | apply kN | apply kD | apply kA)); refine bX (cs := #[.bool false, .int .i64 0]) ?_ 1 _ rfl; (with_reducible repeat (first | apply kN | apply kD | apply kA)); refine bX (cs := #[.bool false, .int .i64 0]) ?_ 0 _ rfl; (with_reducible repeat (first | apply kN | apply kD | apply kA)); exact dV.out)) : gP ≠ jg)); have ko := am ((by rw [hg]; exact Nat.ne_of_gt (kL (g := gP) (o := .cells #[.bool false, .int .i64 dD] 48 (0, 0)) (by (with_reducible repeat (first | apply kN | apply kD | apply kA)); refine bX (cs := #[.bool false, .int .i64 0]) ?_ 1 _ rfl; (with_reducible repeat (first | apply kN | apply kD | apply kA)); refine bX (cs := #[.bool false, .int .i64 0]) ?_ 0 _ rfl; (with_reducible repeat (first | apply kN | apply kD | apply kA)); exact dV.out)) : jg ≠ gP)); clear dO; clear dV; clear HB; have dO := ay; have dV := aA; have HB := aK; have fU := aU; have Uc := dZ; have tq := eH; have rU := eO; have EW := j6; have rV := kg; have EX := ko; clear ay aA aK aU dZ eH eO j6 kg ko; clear hb aV hg; have aef := EW.out; have aeg := rU.out; have auJ := EX.out; have auK := rV.out; have := cz fU.out 0 rfl; have := cz fU.out 1 rfl; have := fz fU.out 0; have := fz fU.out 1; have := cz dV.out 0 rfl; have := cz dV.out 1 rfl; have := fz dV.out 0; have := fz dV.out 1) | ((with_reducible refine bY (f := 143) rfl ?_); refine b_ (some 16) rfl rfl Tryz.func143 (by kernel_rfl) rfl #[.agg #[.bool false, .int .i64 dD]] rfl (by (try simp only [List.map_toArray, List.map_cons, List.map_nil]); first | done | rfl | (simp only [List.length_drop, List.length_take]; rfl)) ?_; (with_reducible refine (jk.calls k1 false dD t224 _ A4.out).mono ?_); rintro e y9 ⟨rfl, hb⟩; refine ⟨_, rfl, ?_⟩; have ay := am (kB (g := fT) (o := .cells #[.bool iJ, .int .i64 iq] 48 (0, 0)) (by (with_reducible repeat (first | apply kN | apply kD | apply kA)); refine dK ?_ rU.out _; (with_reducible repeat (first | apply kN | apply kD | apply kA)); refine dK ?_ rU.out _; (with_reducible repeat (first | apply kN | apply kD | apply kA)); exact dO.out) hb); have aA := am (kB (g := gP) (o := .cells #[.bool false, .int .i64 dD] 48 (0, 0)) (by (with_reducible repeat (first | apply kN | apply kD | apply kA)); refine dK ?_ rV.out _; (with_reducible repeat (first | apply kN | apply kD | apply kA)); refine dK ?_ rV.out _; (with_reducible repeat (first | apply kN | apply kD | apply kA)); exact dV.out) hb); have aK := am (kB (g := jg) (o := .cells #[.bool true, .int .i64 dD] 48 (0, 0)) (by (with_reducible repeat (first | apply kN | apply kD | apply kA)); refine bX (cs := #[.bool true, .int .i64 0]) ?_ 1 _ rfl; (with_reducible repeat (first | apply kN | apply kD | apply kA)); refine bX (cs := #[.bool false, .int .i64 0]) ?_ 0 _ rfl; (with_reducible repeat (first | apply kN | apply kD | apply kA)); exact fU.out) hb); have aU := am (bP (by repeat (first | (with_reducible first | exact HB.out | apply bA | apply pN | apply au | refine bS ?_ iL.out | refine bS ?_ kP.out | refine bS ?_ tq.out) | exact HB.out)) hb); clear dO; clear dV; clear fU; clear HB; have dO := ay; have dV := aA; have fU := aK; have HB := aU; clear ay aA aK aU; (try clear hb); (try clear hb2); (try clear hk); (try clear hi); have := cz dV.out 0 rfl; have := cz dV.out 1 rfl; have := fz dV.out 0; have := fz dV.out 1; have := cz dO.out 0 rfl; have := cz dO.out 1 rfl; have := fz dO.out 0; have := fz dO.out 1))
     refine bodyPost_ret (zV rfl _ _ fT 48 #[.bool false, .int .i64 dD] (0, 0) _ rfl (by (with_reducible repeat (first | apply kN | apply kD | apply kA)); refine bX (cs := #[.bool false, .int .i64 iq]) ?_ 1 _ rfl; (with_reducible repeat (first | apply kN | apply kD | apply kA)); refine bX (cs := #[.bool iJ, .int .i64 iq]) ?_ 0 _ rfl; (with_reducible repeat (first | apply kN | apply kD | apply kA)); exact dO.out) Tryz.underlying48 rfl (by kernel_rfl)) rfl ?_
     exact ⟨by first | rfl | (simp [aQ, aR] <;> rfl) | (simp [*, aQ, aR] <;> rfl), by repeat (first | (with_reducible first | exact HB.out | apply bA | apply pN | apply au | refine bS ?_ iL.out | refine bS ?_ kP.out | refine bS ?_ tq.out) | exact HB.out)⟩
    ·rw [if_neg c5] at H
     have g_ : (t224.toList == a0.toList) = false := beq_eq_false_iff_ne.mpr c5
     have kW : (t224.toList != a0.toList) = true := bne_iff_ne.mpr c5
     replace H := Option.bind_eq_some_iff.mp H
     obtain ⟨t225, xk, H⟩ := H
     replace H : (if t225.toList = a0.toList then (some (true, dD, 0)) else (gI.l0 k1 a0 (wrap64 (dD + 1)))) = some (r1, r2, r3) := H
     have qw := am xk
     clear xk
     by_cases c18 : t225.toList = a0.toList
     ·rw [if_pos c18] at H
      have BQ : (t225.toList == a0.toList) = true := beq_iff_eq.mpr c18
      have BR : (t225.toList != a0.toList) = false := bne_eq_false_iff_eq.mpr c18
      clear c18
      simp only [Option.some.injEq, Prod.mk.injEq] at H
      obtain ⟨rfl, rfl, rfl⟩ := H
      go_wp2_with (first | ((with_reducible refine cK (N := 5) rfl ?_); refine cO ?hg (N := 5) ?hd (cs := #[.bool false, .int .i64 0]) (t := 48) ?hr ?_; (case hd => rfl); (case hg => rfl); (case hr => first | (go_simp; done) | (go_simp; rfl)); intro gP hg DW aV hb; have ay := am (kB (g := fT) (o := .cells #[.bool iJ, .int .i64 iq] 48 (0, 0)) (by (with_reducible repeat (first | apply kN | apply kD | apply kA)); exact dO.out) hb); have aA := am (bP (by repeat (first | (with_reducible first | exact HB.out | apply bA | apply pN | apply au | refine bS ?_ iL.out) | exact HB.out)) hb); have aK := am (aV); have aU := am ((by rw [hg]; exact (bZ (by repeat (first | (with_reducible first | exact HB.out | apply bA | apply pN | apply au | refine bS ?_ iL.out) | exact HB.out))) : w.heap.size ≤ gP)); have dZ := am ((by rw [hg]; exact (bZ (by repeat (first | (with_reducible first | exact HB.out | apply bA | apply pN | apply au | refine bS ?_ iL.out) | exact HB.out))) : w.heap.size ≤ gP)); have eH := am ((by rw [hg]; exact Nat.ne_of_lt (kL (g := fT) (o := .cells #[.bool iJ, .int .i64 iq] 48 (0, 0)) (by (with_reducible repeat (first | apply kN | apply kD | apply kA)); exact dO.out)) : fT ≠ gP)); have eO := am ((by rw [hg]; exact Nat.ne_of_gt (kL (g := fT) (o := .cells #[.bool iJ, .int .i64 iq] 48 (0, 0)) (by (with_reducible repeat (first | apply kN | apply kD | apply kA)); exact dO.out)) : gP ≠ fT)); clear dO; clear HB; have dO := ay; have HB := aA; have dV := aK; have Ub := aU; have kP := dZ; have jC := eH; have EU := eO; clear ay aA aK aU dZ eH eO; clear hb aV hg; have auL := EU.out; have auM := jC.out; have := cz dV.out 0 rfl; have := cz dV.out 1 rfl; have := fz dV.out 0; have := fz dV.out 1) | ((with_reducible refine cK (N := 6) rfl ?_); refine cO ?hg (N := 6) ?hd (cs := #[.bool false, .int .i64 0]) (t := 48) ?hr ?_; (case hd => rfl); (case hg => rfl); (case hr => first | (go_simp; done) | (go_simp; rfl)); intro jg hg w22 aV hb; have ay := am (kB (g := fT) (o := .cells #[.bool iJ, .int .i64 iq] 48 (0, 0)) (by (with_reducible repeat (first | apply kN | apply kD | apply kA)); refine dK ?_ jC.out _; (with_reducible repeat (first | apply kN | apply kD | apply kA)); refine dK ?_ jC.out _; (with_reducible repeat (first | apply kN | apply kD | apply kA)); exact dO.out) hb); have aA := am (kB (g := gP) (o := .cells #[.bool false, .int .i64 dD] 48 (0, 0)) (by (with_reducible repeat (first | apply kN | apply kD | apply kA)); refine bX (cs := #[.bool false, .int .i64 0]) ?_ 1 _ rfl; (with_reducible repeat (first | apply kN | apply kD | apply kA)); refine bX (cs := #[.bool false, .int .i64 0]) ?_ 0 _ rfl; (with_reducible repeat (first | apply kN | apply kD | apply kA)); exact dV.out) hb); have aK := am (bP (by repeat (first | (with_reducible first | exact HB.out | apply bA | apply pN | apply au | refine bS ?_ iL.out | refine bS ?_ kP.out) | exact HB.out)) hb); have aU := am (aV); have dZ := am ((by rw [hg]; exact (bZ (by repeat (first | (with_reducible first | exact HB.out | apply bA | apply pN | apply au | refine bS ?_ iL.out | refine bS ?_ kP.out) | exact HB.out))) : w.heap.size ≤ jg)); have eH := am ((by rw [hg]; exact (bZ (by repeat (first | (with_reducible first | exact HB.out | apply bA | apply pN | apply au | refine bS ?_ iL.out | refine bS ?_ kP.out) | exact HB.out))) : w.heap.size ≤ jg)); have eO := am ((by rw [hg]; exact Nat.ne_of_lt (kL (g := fT) (o := .cells #[.bool iJ, .int .i64 iq] 48 (0, 0)) (by (with_reducible repeat (first | apply kN | apply kD | apply kA)); refine dK ?_ jC.out _; (with_reducible repeat (first | apply kN | apply kD | apply kA)); refine dK ?_ jC.out _; (with_reducible repeat (first | apply kN | apply kD | apply kA)); exact dO.out)) : fT ≠ jg)); have j6 := am ((by rw [hg]; exact Nat.ne_of_gt (kL (g := fT) (o := .cells #[.bool iJ, .int .i64 iq] 48 (0, 0)) (by (with_reducible repeat (first | apply kN | apply kD | apply kA)); refine dK ?_ jC.out _; (with_reducible repeat (first | apply kN | apply kD | apply kA)); refine dK ?_ jC.out _; (with_reducible repeat (first | apply kN | apply kD | apply kA)); exact dO.out)) : jg ≠ fT)); have kg := am ((by rw [hg]; exact Nat.ne_of_lt (kL (g := gP) (o := .cells #[.bool false, .int .i64 dD] 48 (0, 0)) (by (with_reducible repeat (first | apply kN | apply kD | apply kA)); refine bX (cs := #[.bool false, .int .i64 0]) ?_ 1 _ rfl; (with_reducible repeat (first | apply kN | apply kD | apply kA)); refine bX (cs := #[.bool false, .int .i64 0]) ?_ 0 _ rfl; (with_reducible repeat (first | apply kN | apply kD | apply kA)); exact dV.out)) : gP ≠ jg)); have ko := am ((by rw [hg]; exact Nat.ne_of_gt (kL (g := gP) (o := .cells #[.bool false, .int .i64 dD] 48 (0, 0)) (by (with_reducible repeat (first | apply kN | apply kD | apply kA)); refine bX (cs := #[.bool false, .int .i64 0]) ?_ 1 _ rfl; (with_reducible repeat (first | apply kN | apply kD | apply kA)); refine bX (cs := #[.bool false, .int .i64 0]) ?_ 0 _ rfl; (with_reducible repeat (first | apply kN | apply kD | apply kA)); exact dV.out)) : jg ≠ gP)); clear dO; clear dV; clear HB; have dO := ay; have dV := aA; have HB := aK; have fU := aU; have Uc := dZ; have tq := eH; have rU := eO; have EW := j6; have rV := kg; have EX := ko; clear ay aA aK aU dZ eH eO j6 kg ko; clear hb aV hg; have aeL := EW.out; have aeM := rU.out; have auO := EX.out; have auP := rV.out; have := cz fU.out 0 rfl; have := cz fU.out 1 rfl; have := fz fU.out 0; have := fz fU.out 1; have := cz dV.out 0 rfl; have := cz dV.out 1 rfl; have := fz dV.out 0; have := fz dV.out 1) | ((with_reducible refine bY (f := 143) rfl ?_); refine b_ (some 16) rfl rfl Tryz.func143 (by kernel_rfl) rfl #[.agg #[.bool false, .int .i64 dD]] rfl (by (try simp only [List.map_toArray, List.map_cons, List.map_nil]); first | done | rfl | (simp only [List.length_drop, List.length_take]; rfl)) ?_; (with_reducible refine (jk.calls k1 false dD t224 _ A4.out).mono ?_); rintro e Tc ⟨rfl, hb⟩; refine ⟨_, rfl, ?_⟩; have ay := am (kB (g := fT) (o := .cells #[.bool iJ, .int .i64 iq] 48 (0, 0)) (by (with_reducible repeat (first | apply kN | apply kD | apply kA)); refine dK ?_ rU.out _; (with_reducible repeat (first | apply kN | apply kD | apply kA)); refine dK ?_ rU.out _; (with_reducible repeat (first | apply kN | apply kD | apply kA)); exact dO.out) hb); have aA := am (kB (g := gP) (o := .cells #[.bool false, .int .i64 dD] 48 (0, 0)) (by (with_reducible repeat (first | apply kN | apply kD | apply kA)); refine dK ?_ rV.out _; (with_reducible repeat (first | apply kN | apply kD | apply kA)); refine dK ?_ rV.out _; (with_reducible repeat (first | apply kN | apply kD | apply kA)); exact dV.out) hb); have aK := am (kB (g := jg) (o := .cells #[.bool true, .int .i64 dD] 48 (0, 0)) (by (with_reducible repeat (first | apply kN | apply kD | apply kA)); refine bX (cs := #[.bool true, .int .i64 0]) ?_ 1 _ rfl; (with_reducible repeat (first | apply kN | apply kD | apply kA)); refine bX (cs := #[.bool false, .int .i64 0]) ?_ 0 _ rfl; (with_reducible repeat (first | apply kN | apply kD | apply kA)); exact fU.out) hb); have aU := am (bP (by repeat (first | (with_reducible first | exact HB.out | apply bA | apply pN | apply au | refine bS ?_ iL.out | refine bS ?_ kP.out | refine bS ?_ tq.out) | exact HB.out)) hb); clear dO; clear dV; clear fU; clear HB; have dO := ay; have dV := aA; have fU := aK; have HB := aU; clear ay aA aK aU; (try clear hb); (try clear hb2); (try clear hk); (try clear hi); have := cz fU.out 0 rfl; have := cz fU.out 1 rfl; have := fz fU.out 0; have := fz fU.out 1) | ((with_reducible refine bY (f := 143) rfl ?_); refine b_ (some 21) rfl rfl Tryz.func143 (by kernel_rfl) rfl #[.agg #[.bool true, .int .i64 dD]] rfl (by (try simp only [List.map_toArray, List.map_cons, List.map_nil]); first | done | rfl | (simp only [List.length_drop, List.length_take]; rfl)) ?_; (with_reducible refine (jk.calls k1 true dD t225 _ qw.out).mono ?_); rintro e w29 ⟨rfl, hb⟩; refine ⟨_, rfl, ?_⟩; have ay := am (kB (g := fT) (o := .cells #[.bool iJ, .int .i64 iq] 48 (0, 0)) (by (with_reducible repeat (first | apply kN | apply kD | apply kA)); exact dO.out) hb); have aA := am (kB (g := gP) (o := .cells #[.bool false, .int .i64 dD] 48 (0, 0)) (by (with_reducible repeat (first | apply kN | apply kD | apply kA)); exact dV.out) hb); have aK := am (kB (g := jg) (o := .cells #[.bool true, .int .i64 dD] 48 (0, 0)) (by (with_reducible repeat (first | apply kN | apply kD | apply kA)); exact fU.out) hb); have aU := am (bP (by repeat (first | (with_reducible first | exact HB.out | apply bA | apply pN | apply au | refine bS ?_ iL.out | refine bS ?_ kP.out | refine bS ?_ tq.out) | exact HB.out)) hb); clear dO; clear dV; clear fU; clear HB; have dO := ay; have dV := aA; have fU := aK; have HB := aU; clear ay aA aK aU; (try clear hb); (try clear hb2); (try clear hk); (try clear hi); have := cz fU.out 0 rfl; have := cz fU.out 1 rfl; have := fz fU.out 0; have := fz fU.out 1; have := cz dO.out 0 rfl; have := cz dO.out 1 rfl; have := fz dO.out 0; have := fz dO.out 1))
      refine bodyPost_ret (zV rfl _ _ fT 48 #[.bool true, .int .i64 dD] (0, 0) _ rfl (by (with_reducible repeat (first | apply kN | apply kD | apply kA)); refine bX (cs := #[.bool true, .int .i64 iq]) ?_ 1 _ rfl; (with_reducible repeat (first | apply kN | apply kD | apply kA)); refine bX (cs := #[.bool iJ, .int .i64 iq]) ?_ 0 _ rfl; (with_reducible repeat (first | apply kN | apply kD | apply kA)); exact dO.out) Tryz.underlying48 rfl (by kernel_rfl)) rfl ?_
      exact ⟨by first | rfl | (simp [aQ, aR] <;> rfl) | (simp [*, aQ, aR] <;> rfl), by repeat (first | (with_reducible first | exact HB.out | apply bA | apply pN | apply au | refine bS ?_ iL.out | refine bS ?_ kP.out | refine bS ?_ tq.out) | exact HB.out)⟩
     ·rw [if_neg c18] at H
      have BQ : (t225.toList == a0.toList) = false := beq_eq_false_iff_ne.mpr c18
      have BR : (t225.toList != a0.toList) = true := bne_iff_ne.mpr c18
      have H' := am H
      clear H
      go_wp2_with (first | ((with_reducible refine cK (N := 5) rfl ?_); refine cO ?hg (N := 5) ?hd (cs := #[.bool false, .int .i64 0]) (t := 48) ?hr ?_; (case hd => rfl); (case hg => rfl); (case hr => first | (go_simp; done) | (go_simp; rfl)); intro gP hg w32 aV hb; have ay := am (kB (g := fT) (o := .cells #[.bool iJ, .int .i64 iq] 48 (0, 0)) (by (with_reducible repeat (first | apply kN | apply kD | apply kA)); exact dO.out) hb); have aA := am (bP (by repeat (first | (with_reducible first | exact HB.out | apply bA | apply pN | apply au | refine bS ?_ iL.out) | exact HB.out)) hb); have aK := am (aV); have aU := am ((by rw [hg]; exact (bZ (by repeat (first | (with_reducible first | exact HB.out | apply bA | apply pN | apply au | refine bS ?_ iL.out) | exact HB.out))) : w.heap.size ≤ gP)); have dZ := am ((by rw [hg]; exact (bZ (by repeat (first | (with_reducible first | exact HB.out | apply bA | apply pN | apply au | refine bS ?_ iL.out) | exact HB.out))) : w.heap.size ≤ gP)); have eH := am ((by rw [hg]; exact Nat.ne_of_lt (kL (g := fT) (o := .cells #[.bool iJ, .int .i64 iq] 48 (0, 0)) (by (with_reducible repeat (first | apply kN | apply kD | apply kA)); exact dO.out)) : fT ≠ gP)); have eO := am ((by rw [hg]; exact Nat.ne_of_gt (kL (g := fT) (o := .cells #[.bool iJ, .int .i64 iq] 48 (0, 0)) (by (with_reducible repeat (first | apply kN | apply kD | apply kA)); exact dO.out)) : gP ≠ fT)); clear dO; clear HB; have dO := ay; have HB := aA; have dV := aK; have Ub := aU; have kP := dZ; have jC := eH; have EU := eO; clear ay aA aK aU dZ eH eO; clear hb aV hg; have auQ := EU.out; have auR := jC.out; have := cz dV.out 0 rfl; have := cz dV.out 1 rfl; have := fz dV.out 0; have := fz dV.out 1) | ((with_reducible refine cK (N := 6) rfl ?_); refine cO ?hg (N := 6) ?hd (cs := #[.bool false, .int .i64 0]) (t := 48) ?hr ?_; (case hd => rfl); (case hg => rfl); (case hr => first | (go_simp; done) | (go_simp; rfl)); intro jg hg Tx aV hb; have ay := am (kB (g := fT) (o := .cells #[.bool iJ, .int .i64 iq] 48 (0, 0)) (by (with_reducible repeat (first | apply kN | apply kD | apply kA)); refine dK ?_ jC.out _; (with_reducible repeat (first | apply kN | apply kD | apply kA)); refine dK ?_ jC.out _; (with_reducible repeat (first | apply kN | apply kD | apply kA)); exact dO.out) hb); have aA := am (kB (g := gP) (o := .cells #[.bool false, .int .i64 dD] 48 (0, 0)) (by (with_reducible repeat (first | apply kN | apply kD | apply kA)); refine bX (cs := #[.bool false, .int .i64 0]) ?_ 1 _ rfl; (with_reducible repeat (first | apply kN | apply kD | apply kA)); refine bX (cs := #[.bool false, .int .i64 0]) ?_ 0 _ rfl; (with_reducible repeat (first | apply kN | apply kD | apply kA)); exact dV.out) hb); have aK := am (bP (by repeat (first | (with_reducible first | exact HB.out | apply bA | apply pN | apply au | refine bS ?_ iL.out | refine bS ?_ kP.out) | exact HB.out)) hb); have aU := am (aV); have dZ := am ((by rw [hg]; exact (bZ (by repeat (first | (with_reducible first | exact HB.out | apply bA | apply pN | apply au | refine bS ?_ iL.out | refine bS ?_ kP.out) | exact HB.out))) : w.heap.size ≤ jg)); have eH := am ((by rw [hg]; exact (bZ (by repeat (first | (with_reducible first | exact HB.out | apply bA | apply pN | apply au | refine bS ?_ iL.out | refine bS ?_ kP.out) | exact HB.out))) : w.heap.size ≤ jg)); have eO := am ((by rw [hg]; exact Nat.ne_of_lt (kL (g := fT) (o := .cells #[.bool iJ, .int .i64 iq] 48 (0, 0)) (by (with_reducible repeat (first | apply kN | apply kD | apply kA)); refine dK ?_ jC.out _; (with_reducible repeat (first | apply kN | apply kD | apply kA)); refine dK ?_ jC.out _; (with_reducible repeat (first | apply kN | apply kD | apply kA)); exact dO.out)) : fT ≠ jg)); have j6 := am ((by rw [hg]; exact Nat.ne_of_gt (kL (g := fT) (o := .cells #[.bool iJ, .int .i64 iq] 48 (0, 0)) (by (with_reducible repeat (first | apply kN | apply kD | apply kA)); refine dK ?_ jC.out _; (with_reducible repeat (first | apply kN | apply kD | apply kA)); refine dK ?_ jC.out _; (with_reducible repeat (first | apply kN | apply kD | apply kA)); exact dO.out)) : jg ≠ fT)); have kg := am ((by rw [hg]; exact Nat.ne_of_lt (kL (g := gP) (o := .cells #[.bool false, .int .i64 dD] 48 (0, 0)) (by (with_reducible repeat (first | apply kN | apply kD | apply kA)); refine bX (cs := #[.bool false, .int .i64 0]) ?_ 1 _ rfl; (with_reducible repeat (first | apply kN | apply kD | apply kA)); refine bX (cs := #[.bool false, .int .i64 0]) ?_ 0 _ rfl; (with_reducible repeat (first | apply kN | apply kD | apply kA)); exact dV.out)) : gP ≠ jg)); have ko := am ((by rw [hg]; exact Nat.ne_of_gt (kL (g := gP) (o := .cells #[.bool false, .int .i64 dD] 48 (0, 0)) (by (with_reducible repeat (first | apply kN | apply kD | apply kA)); refine bX (cs := #[.bool false, .int .i64 0]) ?_ 1 _ rfl; (with_reducible repeat (first | apply kN | apply kD | apply kA)); refine bX (cs := #[.bool false, .int .i64 0]) ?_ 0 _ rfl; (with_reducible repeat (first | apply kN | apply kD | apply kA)); exact dV.out)) : jg ≠ gP)); clear dO; clear dV; clear HB; have dO := ay; have dV := aA; have HB := aK; have fU := aU; have Uc := dZ; have tq := eH; have rU := eO; have EW := j6; have rV := kg; have EX := ko; clear ay aA aK aU dZ eH eO j6 kg ko; clear hb aV hg; have auS := EW.out; have auT := rU.out; have auU := EX.out; have auV := rV.out; have := cz fU.out 0 rfl; have := cz fU.out 1 rfl; have := fz fU.out 0; have := fz fU.out 1; have := cz dV.out 0 rfl; have := cz dV.out 1 rfl; have := fz dV.out 0; have := fz dV.out 1) | ((with_reducible refine bY (f := 143) rfl ?_); refine b_ (some 16) rfl rfl Tryz.func143 (by kernel_rfl) rfl #[.agg #[.bool false, .int .i64 dD]] rfl (by (try simp only [List.map_toArray, List.map_cons, List.map_nil]); first | done | rfl | (simp only [List.length_drop, List.length_take]; rfl)) ?_; (with_reducible refine (jk.calls k1 false dD t224 _ A4.out).mono ?_); rintro e w40 ⟨rfl, hb⟩; refine ⟨_, rfl, ?_⟩; have ay := am (kB (g := fT) (o := .cells #[.bool iJ, .int .i64 iq] 48 (0, 0)) (by (with_reducible repeat (first | apply kN | apply kD | apply kA)); refine dK ?_ rU.out _; (with_reducible repeat (first | apply kN | apply kD | apply kA)); refine dK ?_ rU.out _; (with_reducible repeat (first | apply kN | apply kD | apply kA)); exact dO.out) hb); have aA := am (kB (g := gP) (o := .cells #[.bool false, .int .i64 dD] 48 (0, 0)) (by (with_reducible repeat (first | apply kN | apply kD | apply kA)); refine dK ?_ rV.out _; (with_reducible repeat (first | apply kN | apply kD | apply kA)); refine dK ?_ rV.out _; (with_reducible repeat (first | apply kN | apply kD | apply kA)); exact dV.out) hb); have aK := am (kB (g := jg) (o := .cells #[.bool true, .int .i64 dD] 48 (0, 0)) (by (with_reducible repeat (first | apply kN | apply kD | apply kA)); refine bX (cs := #[.bool true, .int .i64 0]) ?_ 1 _ rfl; (with_reducible repeat (first | apply kN | apply kD | apply kA)); refine bX (cs := #[.bool false, .int .i64 0]) ?_ 0 _ rfl; (with_reducible repeat (first | apply kN | apply kD | apply kA)); exact fU.out) hb); have aU := am (bP (by repeat (first | (with_reducible first | exact HB.out | apply bA | apply pN | apply au | refine bS ?_ iL.out | refine bS ?_ kP.out | refine bS ?_ tq.out) | exact HB.out)) hb); clear dO; clear dV; clear fU; clear HB; have dO := ay; have dV := aA; have fU := aK; have HB := aU; clear ay aA aK aU; (try clear hb); (try clear hb2); (try clear hk); (try clear hi); have := cz fU.out 0 rfl; have := cz fU.out 1 rfl; have := fz fU.out 0; have := fz fU.out 1) | ((with_reducible refine bY (f := 143) rfl ?_); refine b_ (some 21) rfl rfl Tryz.func143 (by kernel_rfl) rfl #[.agg #[.bool true, .int .i64 dD]] rfl (by (try simp only [List.map_toArray, List.map_cons, List.map_nil]); first | done | rfl | (simp only [List.length_drop, List.length_take]; rfl)) ?_; (with_reducible refine (jk.calls k1 true dD t225 _ qw.out).mono ?_); rintro e w42 ⟨rfl, hb⟩; refine ⟨_, rfl, ?_⟩; have ay := am (kB (g := fT) (o := .cells #[.bool iJ, .int .i64 iq] 48 (0, 0)) (by (with_reducible repeat (first | apply kN | apply kD | apply kA)); exact dO.out) hb); have aA := am (kB (g := gP) (o := .cells #[.bool false, .int .i64 dD] 48 (0, 0)) (by (with_reducible repeat (first | apply kN | apply kD | apply kA)); exact dV.out) hb); have aK := am (kB (g := jg) (o := .cells #[.bool true, .int .i64 dD] 48 (0, 0)) (by (with_reducible repeat (first | apply kN | apply kD | apply kA)); exact fU.out) hb); have aU := am (bP (by repeat (first | (with_reducible first | exact HB.out | apply bA | apply pN | apply au | refine bS ?_ iL.out | refine bS ?_ kP.out | refine bS ?_ tq.out) | exact HB.out)) hb); clear dO; clear dV; clear fU; clear HB; have dO := ay; have dV := aA; have fU := aK; have HB := aU; clear ay aA aK aU; (try clear hb); (try clear hb2); (try clear hk); (try clear hi)))
      go_roundg k1
      case measure => have := eu.out; omega
      case rel => exact ⟨(wrap64 (dD + 1)), (iJ), (iq), (by first | rfl | (simp; done) | (simp [*]; done)), H', ⟨by have := eu.out; omega⟩, ⟨by (with_reducible repeat (first | apply kN | apply kD | apply kA)); exact dO.out⟩, ⟨by repeat (first | (with_reducible first | exact HB.out | apply bA | apply pN | apply au | refine bS ?_ iL.out | refine bS ?_ kP.out | refine bS ?_ tq.out) | exact HB.out)⟩⟩
   ·rw [if_neg c3] at H
    have gH : decide (dD ≤ 31) = false := decide_eq_false c3
    clear c3
    simp only [Option.some.injEq, Prod.mk.injEq] at H
    obtain ⟨rfl, rfl, rfl⟩ := H
    have := cz dO.out 0 rfl
    have := cz dO.out 1 rfl
    have := fz dO.out 0
    have := fz dO.out 1
    go_wp2
    refine bodyPost_ret (zV rfl _ _ fT 48 #[.bool false, .int .i64 0] (0, 0) _ rfl (by (with_reducible repeat (first | apply kN | apply kD | apply kA)); refine bX (cs := #[.bool false, .int .i64 iq]) ?_ 1 _ rfl; (with_reducible repeat (first | apply kN | apply kD | apply kA)); refine bX (cs := #[.bool iJ, .int .i64 iq]) ?_ 0 _ rfl; (with_reducible repeat (first | apply kN | apply kD | apply kA)); exact dO.out) Tryz.underlying48 rfl (by kernel_rfl)) rfl ?_
    exact ⟨by first | rfl | (simp [aQ, aR] <;> rfl) | (simp [*, aQ, aR] <;> rfl), by repeat (first | (with_reducible first | exact HB.out | apply bA | apply pN | apply au | refine bS ?_ iL.out) | exact HB.out)⟩
noncomputable def mK.f (k : Nat) (a0 : ByteArray) : Option (Bool) := if (a0.size : Int) > 8 then (some false) else ((mJ.f k a0).bind fun t226 => (if t226 = true then ((gM.f k a0).bind fun t227 => (if t227 = true then (some false) else ((gI.f k a0).bind fun rW => (some (rW.2.2 != 0))))) else (some false)))
theorem mK.mono : ∀ a0 k, aN (mK.f k a0) (mK.f (k + 1) a0) := by
 intro a0 k
 unfold mK.f
 repeat' first
  | (with_reducible exact gI.mono _ _)
  | (with_reducible exact gM.mono _ _)
  | (with_reducible exact mJ.mono _ _)
  | (with_reducible exact aN.refl _)
  | (with_reducible exact aN.none _)
  | (with_reducible refine aN.ite ?_ ?_)
  | (with_reducible refine aN.bind ?_ (fun _ => ?_))
  | exact gI.mono _ _
  | exact gM.mono _ _
  | exact mJ.mono _ _
  | exact aN.none _
  | refine aN.ite ?_ ?_
  | refine aN.bind ?_ (fun _ => ?_)
theorem mK.calls (k : Nat) (a0 : ByteArray) (r : Bool) (w : World) (h : mK.f k a0 = some r) :
 Calls Tryz.prog 73 #[.string a0] w fun e w' => e = .returned (.bool r) ∧ Below w.heap.size w w' := by
 have mg := Tryz.underlying48
 have HB := am (Below.refl w.heap.size w)
 have H : (if (a0.size : Int) > 8 then (some false) else ((mJ.f k a0).bind fun t226 => (if t226 = true then ((gM.f k a0).bind fun t227 => (if t227 = true then (some false) else ((gI.f k a0).bind fun rW => (some (rW.2.2 != 0))))) else (some false)))) = some r := h
 clear h
 by_cases c2 : (a0.size : Int) > 8
 ·rw [if_pos c2] at H
  have iN : decide (8 < (a0.size : Int)) = true := decide_eq_true c2
  have nM : decide (8 < a0.size) = true := decide_eq_true (by omega)
  clear c2
  obtain rfl := Option.some.inj H
  go_enter Tryz.func73, Tryz.ntmps73
  go_wp2
  go_ret
  exact ⟨by first | rfl | (simp [aQ, aR] <;> rfl) | (simp [*, aQ, aR] <;> rfl), by repeat (first | (with_reducible first | exact HB.out | apply bA | apply pN | apply au) | exact HB.out)⟩
 ·rw [if_neg c2] at H
  have iN : decide (8 < (a0.size : Int)) = false := decide_eq_false c2
  have nM : decide (8 < a0.size) = false := decide_eq_false (by omega)
  clear c2
  replace H := Option.bind_eq_some_iff.mp H
  obtain ⟨t226, fH, H⟩ := H
  replace H : (if t226 = true then ((gM.f k a0).bind fun t227 => (if t227 = true then (some false) else ((gI.f k a0).bind fun rW => (some (rW.2.2 != 0))))) else (some false)) = some r := H
  have A3 := am fH
  clear fH
  by_cases c4 : t226 = true
  ·subst c4
   have H1 : ((gM.f k a0).bind fun t227 => (if t227 = true then (some false) else ((gI.f k a0).bind fun rW => (some (rW.2.2 != 0))))) = some r := by rw [if_pos rfl] at H; exact H
   clear H
   have H := H1
   clear H1
   replace H := Option.bind_eq_some_iff.mp H
   obtain ⟨t227, jA, H⟩ := H
   replace H : (if t227 = true then (some false) else ((gI.f k a0).bind fun rW => (some (rW.2.2 != 0)))) = some r := H
   have A5 := am jA
   clear jA
   by_cases c6 : t227 = true
   ·subst c6
    have H1 : (some false) = some r := by rw [if_pos rfl] at H; exact H
    clear H
    have H := H1
    clear H1
    obtain rfl := Option.some.inj H
    go_enter Tryz.func73, Tryz.ntmps73
    go_wp2_with (first | (go_at_call 140; (with_reducible refine (mJ.calls k a0 true _ A3.out).mono ?_); rintro e w7 ⟨rfl, hb⟩; have ay := am (bP (by repeat (first | (with_reducible first | exact HB.out | apply bA | apply pN | apply au) | exact HB.out)) hb); clear HB; have HB := ay; clear ay; (try clear hb); (try clear hb2); (try clear hk); (try clear hi)) | (go_at_call 141; (with_reducible refine (gM.calls k a0 true _ A5.out).mono ?_); rintro e w8 ⟨rfl, hb⟩; have ay := am (bP (by repeat (first | (with_reducible first | exact HB.out | apply bA | apply pN | apply au) | exact HB.out)) hb); clear HB; have HB := ay; clear ay; (try clear hb); (try clear hb2); (try clear hk); (try clear hi)))
    go_ret
    exact ⟨by first | rfl | (simp [aQ, aR] <;> rfl) | (simp [*, aQ, aR] <;> rfl), by repeat (first | (with_reducible first | exact HB.out | apply bA | apply pN | apply au) | exact HB.out)⟩
   ·replace c6 := Bool.eq_false_iff.mpr c6
    subst c6
    have H1 : ((gI.f k a0).bind fun rW => (some (rW.2.2 != 0))) = some r := by rw [if_neg (show ¬ (false = true) by decide)] at H; exact H
    clear H
    have H := H1
    clear H1
    replace H := Option.bind_eq_some_iff.mp H
    obtain ⟨⟨t228, t229, t230⟩, nP, H⟩ := H
    replace H : (some (t230 != 0)) = some r := H
    have A9 := am nP
    clear nP
    obtain rfl := Option.some.inj H
    go_enter Tryz.func73, Tryz.ntmps73
    go_wp2_with (first | (go_at_call 140; (with_reducible refine (mJ.calls k a0 true _ A3.out).mono ?_); rintro e o7 ⟨rfl, hb⟩; have ay := am (bP (by repeat (first | (with_reducible first | exact HB.out | apply bA | apply pN | apply au) | exact HB.out)) hb); clear HB; have HB := ay; clear ay; (try clear hb); (try clear hb2); (try clear hk); (try clear hi)) | (go_at_call 141; (with_reducible refine (gM.calls k a0 false _ A5.out).mono ?_); rintro e sP ⟨rfl, hb⟩; have ay := am (bP (by repeat (first | (with_reducible first | exact HB.out | apply bA | apply pN | apply au) | exact HB.out)) hb); clear HB; have HB := ay; clear ay; (try clear hb); (try clear hb2); (try clear hk); (try clear hi)) | ((with_reducible refine bY (f := 142) rfl ?_); refine b_ (some 19) rfl rfl Tryz.func142 (by kernel_rfl) rfl #[.string a0] rfl (by (try simp only [List.map_toArray, List.map_cons, List.map_nil]); first | done | rfl | (simp only [List.length_drop, List.length_take]; rfl)) ?_; (with_reducible refine (gI.calls k a0 t228 t229 t230 _ A9.out).mono ?_); rintro e uE ⟨rfl, hb⟩; refine ⟨_, rfl, ?_⟩; have ay := am (bP (by repeat (first | (with_reducible first | exact HB.out | apply bA | apply pN | apply au) | exact HB.out)) hb); clear HB; have HB := ay; clear ay; (try clear hb); (try clear hb2); (try clear hk); (try clear hi)) | ((with_reducible refine cK (N := 3) rfl ?_); refine cO ?hg (N := 3) ?hd (cs := #[.bool false, .int .i64 0]) (t := 48) ?hr ?_; (case hd => rfl); (case hg => rfl); (case hr => first | (go_simp; done) | (go_simp; rfl)); intro Ud hg Eo aV hb; have ay := am (bP (by repeat (first | (with_reducible first | exact HB.out | apply bA | apply pN | apply au) | exact HB.out)) hb); have aA := am (aV); have aK := am ((by rw [hg]; exact (bZ (by repeat (first | (with_reducible first | exact HB.out | apply bA | apply pN | apply au) | exact HB.out))) : w.heap.size ≤ Ud)); have aU := am ((by rw [hg]; exact (bZ (by repeat (first | (with_reducible first | exact HB.out | apply bA | apply pN | apply au) | exact HB.out))) : w.heap.size ≤ Ud)); clear HB; have HB := ay; have Ie := aA; have auX := aK; have afL := aU; clear ay aA aK aU; clear hb aV hg; have := cz Ie.out 0 rfl; have := cz Ie.out 1 rfl; have := fz Ie.out 0; have := fz Ie.out 1))
    go_ret
    exact ⟨by first | rfl | (simp [aQ, aR] <;> rfl) | (simp [*, aQ, aR] <;> rfl), by repeat (first | (with_reducible first | exact HB.out | apply bA | apply pN | apply au | refine bS ?_ afL.out) | exact HB.out)⟩
  ·replace c4 := Bool.eq_false_iff.mpr c4
   subst c4
   have H1 : (some false) = some r := by rw [if_neg (show ¬ (false = true) by decide)] at H; exact H
   clear H
   have H := H1
   clear H1
   obtain rfl := Option.some.inj H
   go_enter Tryz.func73, Tryz.ntmps73
   go_wp2_with (first | (go_at_call 140; (with_reducible refine (mJ.calls k a0 false _ A3.out).mono ?_); rintro e yY ⟨rfl, hb⟩; have ay := am (bP (by repeat (first | (with_reducible first | exact HB.out | apply bA | apply pN | apply au) | exact HB.out)) hb); clear HB; have HB := ay; clear ay; (try clear hb); (try clear hb2); (try clear hk); (try clear hi)))
   go_ret
   exact ⟨by first | rfl | (simp [aQ, aR] <;> rfl) | (simp [*, aQ, aR] <;> rfl), by repeat (first | (with_reducible first | exact HB.out | apply bA | apply pN | apply au) | exact HB.out)⟩
end Go.Proofs.YtgliaoanlhbepaaGreatDoor.Q
