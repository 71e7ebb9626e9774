/- Walks, printed by a program of this session: what each function of the law computes. -/
import Derived.Test.YtgliaoanlhbepaaGreatDoorQ0
import Derived.Test.YtgliaoanlhbepaaGreatDoorQ1
import Derived.Test.YtgliaoanlhbepaaGreatDoorQ3
import Derived.Test.YtgliaoanlhbepaaGreatDoorQ4
namespace Go.Proofs.YtgliaoanlhbepaaGreatDoor.Q
open Go.RowKit Go.Proofs.bT.eG Go.Proofs.bT.iM Go.Proofs.bT.jd
open Go.Proofs.bT.eG renaming lF → pN, lZ → au, l6 → bA, mZ → bS, m_ → bZ, ng → bP, ni → kN, nk → kD, nu → kA, ny → fz, nA → kB, lH → kL
attribute [local go_sem] nC nD nE nG nH nI nJ nK
set_option maxHeartbeats 8000000
set_option maxRecDepth 100000
set_option linter.unusedVariables false
set_option linter.unusedSimpArgs false
attribute [local go_sem high] Le
noncomputable def fP.j0 : Nat → Bool → Int → Int → ByteArray → Bool → Bool → Int → Int → ByteArray → Bool → Bool → Int → Bool → ByteArray → Int → Int → ByteArray → Bool → Bool → Option (Bool)
 | 0, _, _, _, _, _, _, _, _, _, _, _, _, _, _, _, _, _, _, _ => none
 | k + 1, x29, H6, aee, arv, arw, arx, arz, arA, arB, arC, arD, EB, arE, arF, H7, M5, M6, M7, M8 => if x29 = true then (some false) else (if H6 = 4 then (if EB = 0 then ((jE.f k H7 M5 M6 M7 M8).bind fun t144 => (if t144 = 0 then ((uq.f H7 M5 M6 M7 M8).bind fun t145 => (if t145 = true then (some (H7 != 5)) else (some false))) else (some false))) else (some false)) else (if ((gu H7 0 M5 0 M6 (⟨#[]⟩ : ByteArray) M7 false M8 false) = true) then (if H6 = 0 then (some (EB == 0)) else (if H6 = 1 then (if EB = 0 then (some true) else (some (EB == 1))) else ((wN.f (H6 == 3) aee EB).bind fun Dy => (some Dy.1)))) else (some false)))
noncomputable def fP.f (k : Nat) (ah : Int) (av : Int) (aG : ByteArray) (aJ : Bool) (aI : Bool) (bJ : Int) (bK : Int) (bL : ByteArray) (bM : Bool) (bN : Bool) (bg : Int) (bU : Bool) (bH : ByteArray) (bq : Int) (bC : Int) (bE : ByteArray) (bF : Bool) (bG : Bool) : Option (Bool) := if ((gu bJ ah bK av bL aG bM aJ bN aI) = true) then (if bH.toList = ([] : List UInt8) then (if bU = true then (if aJ = true then (fP.j0 k (bg != 0) ah av aG aJ aI bJ bK bL bM bN bg bU bH bq bC bE bF bG) else (fP.j0 k true ah av aG aJ aI bJ bK bL bM bN bg bU bH bq bC bE bF bG)) else (fP.j0 k false ah av aG aJ aI bJ bK bL bM bN bg bU bH bq bC bE bF bG)) else (fP.j0 k true ah av aG aJ aI bJ bK bL bM bN bg bU bH bq bC bE bF bG)) else (fP.j0 k true ah av aG aJ aI bJ bK bL bM bN bg bU bH bq bC bE bF bG)
theorem fP.calls (k : Nat) (ah : Int) (av : Int) (aG : ByteArray) (aJ : Bool) (aI : Bool) (bJ : Int) (bK : Int) (bL : ByteArray) (bM : Bool) (bN : Bool) (bg : Int) (bU : Bool) (bH : ByteArray) (bq : Int) (bC : Int) (bE : ByteArray) (bF : Bool) (bG : Bool) (r : Bool) (w : World) (HT0 : Go.Proofs.fM.jv w) (h : fP.f k ah av aG aJ aI bJ bK bL bM bN bg bU bH bq bC bE bF bG = some r) :
 Calls Tryz.prog 15 #[.agg #[.int .i64 ah, .int .i64 av, .string aG, .bool aJ, .bool aI], .agg #[.int .i64 bJ, .int .i64 bK, .string bL, .bool bM, .bool bN, .int .i64 bg, .bool bU, .string bH, .int .i64 bq, .int .i64 bC, .string bE, .bool bF, .bool bG]] w fun e w' => e = .returned (.bool r) ∧ Below w.heap.size w w' := by
 have lI := Tryz.underlying29
 have wW := Tryz.underlying31
 have mg := Tryz.underlying48
 have HB := am (Below.refl w.heap.size w)
 have HT := am HT0
 clear HT0
 have H : (if ((gu bJ ah bK av bL aG bM aJ bN aI) = true) then (if bH.toList = ([] : List UInt8) then (if bU = true then (if aJ = true then (fP.j0 k (bg != 0) ah av aG aJ aI bJ bK bL bM bN bg bU bH bq bC bE bF bG) else (fP.j0 k true ah av aG aJ aI bJ bK bL bM bN bg bU bH bq bC bE bF bG)) else (fP.j0 k false ah av aG aJ aI bJ bK bL bM bN bg bU bH bq bC bE bF bG)) else (fP.j0 k true ah av aG aJ aI bJ bK bL bM bN bg bU bH bq bC bE bF bG)) else (fP.j0 k true ah av aG aJ aI bJ bK bL bM bN bg bU bH bq bC bE bF bG)) = some r := h
 clear h
 have mO := am H
 clear H
 go_enter Tryz.func15, Tryz.ntmps15
 go_upto_region 1 with (first | ((with_reducible refine cK (N := 2) rfl ?_); refine cO ?hg (N := 2) ?hd (cs := #[.int .i64 ah, .int .i64 av, .string aG, .bool aJ, .bool aI]) (t := 29) ?hr ?_; (case hd => rfl); (case hg => rfl); (case hr => first | (go_simp; done) | (go_simp; rfl)); intro nR hg w4 aV hb; have ay := am (bP (by repeat (first | (with_reducible first | exact HB.out | apply bA | apply pN | apply au) | exact HB.out)) hb); have aA := am (aV); have aK := am ((by rw [hg]; exact (bZ (by repeat (first | (with_reducible first | exact HB.out | apply bA | apply pN | apply au) | exact HB.out))) : w.heap.size ≤ nR)); have aU := am ((by rw [hg]; exact (bZ (by repeat (first | (with_reducible first | exact HB.out | apply bA | apply pN | apply au) | exact HB.out))) : w.heap.size ≤ nR)); clear HB; have HB := ay; have aZ := aA; have arG := aK; have iU := aU; clear ay aA aK aU; clear hb aV hg) | ((with_reducible refine cK (N := 3) rfl ?_); refine cO ?hg (N := 3) ?hd (cs := #[.int .i64 bJ, .int .i64 bK, .string bL, .bool bM, .bool bN, .int .i64 bg, .bool bU, .string bH, .int .i64 bq, .int .i64 bC, .string bE, .bool bF, .bool bG]) (t := 31) ?hr ?_; (case hd => rfl); (case hg => rfl); (case hr => first | (go_simp; done) | (go_simp; rfl)); intro rG hg w5 aV hb; have ay := am (kB (g := nR) (o := .cells #[.int .i64 ah, .int .i64 av, .string aG, .bool aJ, .bool aI] 29 (0, 0)) (by (with_reducible repeat (first | apply kN | apply kD | apply kA)); exact aZ.out) hb); have aA := am (bP (by repeat (first | (with_reducible first | exact HB.out | apply bA | apply pN | apply au | refine bS ?_ iU.out) | exact HB.out)) hb); have aK := am (aV); have aU := am ((by rw [hg]; exact (bZ (by repeat (first | (with_reducible first | exact HB.out | apply bA | apply pN | apply au | refine bS ?_ iU.out) | exact HB.out))) : w.heap.size ≤ rG)); have dZ := am ((by rw [hg]; exact (bZ (by repeat (first | (with_reducible first | exact HB.out | apply bA | apply pN | apply au | refine bS ?_ iU.out) | exact HB.out))) : w.heap.size ≤ rG)); have eH := am ((by rw [hg]; exact Nat.ne_of_lt (kL (g := nR) (o := .cells #[.int .i64 ah, .int .i64 av, .string aG, .bool aJ, .bool aI] 29 (0, 0)) (by (with_reducible repeat (first | apply kN | apply kD | apply kA)); exact aZ.out)) : nR ≠ rG)); have eO := am ((by rw [hg]; exact Nat.ne_of_gt (kL (g := nR) (o := .cells #[.int .i64 ah, .int .i64 av, .string aG, .bool aJ, .bool aI] 29 (0, 0)) (by (with_reducible repeat (first | apply kN | apply kD | apply kA)); exact aZ.out)) : rG ≠ nR)); clear aZ; clear HB; have aZ := ay; have HB := aA; have aC := aK; have arH := aU; have jm := dZ; have nS := eH; have nT := eO; clear ay aA aK aU dZ eH eO; clear hb aV hg))
 (try simp only [Act.put, List.setIfInBounds_toArray, List.set_cons_zero, List.set_cons_succ])
 go_cut [29] (fun v29 wc => ∃ (kq : Nat) (H8 : Bool), v29 = .bool H8 ∧ bI (fP.j0 kq H8 ah av aG aJ aI bJ bK bL bM bN bg bU bH bq bC bE bF bG = some r) ∧ bI (kq ≤ k) ∧ bI (wc.heap[nR]? = some (.cells #[.int .i64 ah, .int .i64 av, .string aG, .bool aJ, .bool aI] 29 (0, 0))) ∧ bI (wc.heap[rG]? = some (.cells #[.int .i64 bJ, .int .i64 bK, .string bL, .bool bM, .bool bN, .int .i64 bg, .bool bU, .string bH, .int .i64 bq, .int .i64 bC, .string bE, .bool bF, .bool bG] 31 (0, 0))) ∧ bI (Below w.heap.size w wc))
 case first =>
  have H := mO.out
  clear mO
  by_cases c6 : ((gu bJ ah bK av bL aG bM aJ bN aI) = true)
  ·rw [if_pos c6] at H
   have gT : (gu bJ ah bK av bL aG bM aJ bN aI) = true := c6
   clear c6
   (first | rw [gT] | (simp only [dS, eZ]; rw [gT]) | skip)
   by_cases c7 : bH.toList = ([] : List UInt8)
   ·rw [if_pos c7] at H
    have iB : (bH.toList == ([] : List UInt8)) = true := beq_iff_eq.mpr c7
    have j5 : (bH.toList != ([] : List UInt8)) = false := bne_eq_false_iff_eq.mpr c7
    clear c7
    by_cases c8 : bU = true
    ·subst c8
     have H1 : (if aJ = true then (fP.j0 k (bg != 0) ah av aG aJ aI bJ bK bL bM bN bg true bH bq bC bE bF bG) else (fP.j0 k true ah av aG aJ aI bJ bK bL bM bN bg true bH bq bC bE bF bG)) = some r := by rw [if_pos rfl] at H; exact H
     clear H
     have H := H1
     clear H1
     by_cases c9 : aJ = true
     ·subst c9
      have H1 : (fP.j0 k (bg != 0) ah av aG true aI bJ bK bL bM bN bg true bH bq bC bE bF bG) = some r := by rw [if_pos rfl] at H; exact H
      clear H
      have H := H1
      clear H1
      have H' := am H
      clear H
      have aef := nT.out
      have aeg := nS.out
      have := cz aC.out 0 rfl
      have := cz aC.out 1 rfl
      have := cz aC.out 2 rfl
      have := cz aC.out 3 rfl
      have := cz aC.out 4 rfl
      have := cz aC.out 5 rfl
      have := cz aC.out 6 rfl
      have := cz aC.out 7 rfl
      have := cz aC.out 8 rfl
      have := cz aC.out 9 rfl
      have := cz aC.out 10 rfl
      have := cz aC.out 11 rfl
      have := cz aC.out 12 rfl
      have := fz aC.out 0
      have := fz aC.out 1
      have := fz aC.out 2
      have := fz aC.out 3
      have := fz aC.out 4
      have := fz aC.out 5
      have := fz aC.out 6
      have := fz aC.out 7
      have := fz aC.out 8
      have := fz aC.out 9
      have := fz aC.out 10
      have := fz aC.out 11
      have := fz aC.out 12
      have := cz aZ.out 0 rfl
      have := cz aZ.out 1 rfl
      have := cz aZ.out 2 rfl
      have := cz aZ.out 3 rfl
      have := cz aZ.out 4 rfl
      have := fz aZ.out 0
      have := fz aZ.out 1
      have := fz aZ.out 2
      have := fz aZ.out 3
      have := fz aZ.out 4
      go_wp2
      go_meet
      case rel => exact ⟨_, ((bg != 0)), (by first | rfl | (simp; done) | (simp [*]; done)), H', ⟨by first | omega | exact Nat.le_refl _⟩, ⟨by (with_reducible repeat (first | apply kN | apply kD | apply kA)); exact aZ.out⟩, ⟨by (with_reducible repeat (first | apply kN | apply kD | apply kA)); exact aC.out⟩, ⟨by repeat (first | (with_reducible first | exact HB.out | apply bA | apply pN | apply au | refine bS ?_ iU.out | refine bS ?_ jm.out) | exact HB.out)⟩⟩
     ·replace c9 := Bool.eq_false_iff.mpr c9
      subst c9
      have H1 : (fP.j0 k true ah av aG false aI bJ bK bL bM bN bg true bH bq bC bE bF bG) = some r := by rw [if_neg (show ¬ (false = true) by decide)] at H; exact H
      clear H
      have H := H1
      clear H1
      have H' := am H
      clear H
      have RL := nT.out
      have RN := nS.out
      have := cz aC.out 0 rfl
      have := cz aC.out 1 rfl
      have := cz aC.out 2 rfl
      have := cz aC.out 3 rfl
      have := cz aC.out 4 rfl
      have := cz aC.out 5 rfl
      have := cz aC.out 6 rfl
      have := cz aC.out 7 rfl
      have := cz aC.out 8 rfl
      have := cz aC.out 9 rfl
      have := cz aC.out 10 rfl
      have := cz aC.out 11 rfl
      have := cz aC.out 12 rfl
      have := fz aC.out 0
      have := fz aC.out 1
      have := fz aC.out 2
      have := fz aC.out 3
      have := fz aC.out 4
      have := fz aC.out 5
      have := fz aC.out 6
      have := fz aC.out 7
      have := fz aC.out 8
      have := fz aC.out 9
      have := fz aC.out 10
      have := fz aC.out 11
      have := fz aC.out 12
      have := cz aZ.out 0 rfl
      have := cz aZ.out 1 rfl
      have := cz aZ.out 2 rfl
      have := cz aZ.out 3 rfl
      have := cz aZ.out 4 rfl
      have := fz aZ.out 0
      have := fz aZ.out 1
      have := fz aZ.out 2
      have := fz aZ.out 3
      have := fz aZ.out 4
      go_wp2
      go_meet
      case rel => exact ⟨_, (true), (by first | rfl | (simp; done) | (simp [*]; done)), H', ⟨by first | omega | exact Nat.le_refl _⟩, ⟨by (with_reducible repeat (first | apply kN | apply kD | apply kA)); exact aZ.out⟩, ⟨by (with_reducible repeat (first | apply kN | apply kD | apply kA)); exact aC.out⟩, ⟨by repeat (first | (with_reducible first | exact HB.out | apply bA | apply pN | apply au | refine bS ?_ iU.out | refine bS ?_ jm.out) | exact HB.out)⟩⟩
    ·replace c8 := Bool.eq_false_iff.mpr c8
     subst c8
     have H1 : (fP.j0 k false ah av aG aJ aI bJ bK bL bM bN bg false bH bq bC bE bF bG) = some r := by rw [if_neg (show ¬ (false = true) by decide)] at H; exact H
     clear H
     have H := H1
     clear H1
     have H' := am H
     clear H
     have arI := nT.out
     have arJ := nS.out
     have := cz aC.out 0 rfl
     have := cz aC.out 1 rfl
     have := cz aC.out 2 rfl
     have := cz aC.out 3 rfl
     have := cz aC.out 4 rfl
     have := cz aC.out 5 rfl
     have := cz aC.out 6 rfl
     have := cz aC.out 7 rfl
     have := cz aC.out 8 rfl
     have := cz aC.out 9 rfl
     have := cz aC.out 10 rfl
     have := cz aC.out 11 rfl
     have := cz aC.out 12 rfl
     have := fz aC.out 0
     have := fz aC.out 1
     have := fz aC.out 2
     have := fz aC.out 3
     have := fz aC.out 4
     have := fz aC.out 5
     have := fz aC.out 6
     have := fz aC.out 7
     have := fz aC.out 8
     have := fz aC.out 9
     have := fz aC.out 10
     have := fz aC.out 11
     have := fz aC.out 12
     have := cz aZ.out 0 rfl
     have := cz aZ.out 1 rfl
     have := cz aZ.out 2 rfl
     have := cz aZ.out 3 rfl
     have := cz aZ.out 4 rfl
     have := fz aZ.out 0
     have := fz aZ.out 1
     have := fz aZ.out 2
     have := fz aZ.out 3
     have := fz aZ.out 4
     go_wp2
     go_meet
     case rel => exact ⟨_, (false), (by first | rfl | (simp; done) | (simp [*]; done)), H', ⟨by first | omega | exact Nat.le_refl _⟩, ⟨by (with_reducible repeat (first | apply kN | apply kD | apply kA)); exact aZ.out⟩, ⟨by (with_reducible repeat (first | apply kN | apply kD | apply kA)); exact aC.out⟩, ⟨by repeat (first | (with_reducible first | exact HB.out | apply bA | apply pN | apply au | refine bS ?_ iU.out | refine bS ?_ jm.out) | exact HB.out)⟩⟩
   ·rw [if_neg c7] at H
    have iB : (bH.toList == ([] : List UInt8)) = false := beq_eq_false_iff_ne.mpr c7
    have j5 : (bH.toList != ([] : List UInt8)) = true := bne_iff_ne.mpr c7
    have H' := am H
    clear H
    have adL := nT.out
    have adM := nS.out
    have := cz aC.out 0 rfl
    have := cz aC.out 1 rfl
    have := cz aC.out 2 rfl
    have := cz aC.out 3 rfl
    have := cz aC.out 4 rfl
    have := cz aC.out 5 rfl
    have := cz aC.out 6 rfl
    have := cz aC.out 7 rfl
    have := cz aC.out 8 rfl
    have := cz aC.out 9 rfl
    have := cz aC.out 10 rfl
    have := cz aC.out 11 rfl
    have := cz aC.out 12 rfl
    have := fz aC.out 0
    have := fz aC.out 1
    have := fz aC.out 2
    have := fz aC.out 3
    have := fz aC.out 4
    have := fz aC.out 5
    have := fz aC.out 6
    have := fz aC.out 7
    have := fz aC.out 8
    have := fz aC.out 9
    have := fz aC.out 10
    have := fz aC.out 11
    have := fz aC.out 12
    have := cz aZ.out 0 rfl
    have := cz aZ.out 1 rfl
    have := cz aZ.out 2 rfl
    have := cz aZ.out 3 rfl
    have := cz aZ.out 4 rfl
    have := fz aZ.out 0
    have := fz aZ.out 1
    have := fz aZ.out 2
    have := fz aZ.out 3
    have := fz aZ.out 4
    go_wp2
    go_meet
    case rel => exact ⟨_, (true), (by first | rfl | (simp; done) | (simp [*]; done)), H', ⟨by first | omega | exact Nat.le_refl _⟩, ⟨by (with_reducible repeat (first | apply kN | apply kD | apply kA)); exact aZ.out⟩, ⟨by (with_reducible repeat (first | apply kN | apply kD | apply kA)); exact aC.out⟩, ⟨by repeat (first | (with_reducible first | exact HB.out | apply bA | apply pN | apply au | refine bS ?_ iU.out | refine bS ?_ jm.out) | exact HB.out)⟩⟩
  ·rw [if_neg c6] at H
   have gT : (gu bJ ah bK av bL aG bM aJ bN aI) = false := by simpa using c6
   clear c6
   (first | rw [gT] | (simp only [dS, eZ]; rw [gT]) | skip)
   have H' := am H
   clear H
   have arK := nT.out
   have arL := nS.out
   have := cz aC.out 0 rfl
   have := cz aC.out 1 rfl
   have := cz aC.out 2 rfl
   have := cz aC.out 3 rfl
   have := cz aC.out 4 rfl
   have := cz aC.out 5 rfl
   have := cz aC.out 6 rfl
   have := cz aC.out 7 rfl
   have := cz aC.out 8 rfl
   have := cz aC.out 9 rfl
   have := cz aC.out 10 rfl
   have := cz aC.out 11 rfl
   have := cz aC.out 12 rfl
   have := fz aC.out 0
   have := fz aC.out 1
   have := fz aC.out 2
   have := fz aC.out 3
   have := fz aC.out 4
   have := fz aC.out 5
   have := fz aC.out 6
   have := fz aC.out 7
   have := fz aC.out 8
   have := fz aC.out 9
   have := fz aC.out 10
   have := fz aC.out 11
   have := fz aC.out 12
   have := cz aZ.out 0 rfl
   have := cz aZ.out 1 rfl
   have := cz aZ.out 2 rfl
   have := cz aZ.out 3 rfl
   have := cz aZ.out 4 rfl
   have := fz aZ.out 0
   have := fz aZ.out 1
   have := fz aZ.out 2
   have := fz aZ.out 3
   have := fz aZ.out 4
   go_wp2
   go_meet
   case rel => exact ⟨_, (true), (by first | rfl | (simp; done) | (simp [*]; done)), H', ⟨by first | omega | exact Nat.le_refl _⟩, ⟨by (with_reducible repeat (first | apply kN | apply kD | apply kA)); exact aZ.out⟩, ⟨by (with_reducible repeat (first | apply kN | apply kD | apply kA)); exact aC.out⟩, ⟨by repeat (first | (with_reducible first | exact HB.out | apply bA | apply pN | apply au | refine bS ?_ iU.out | refine bS ?_ jm.out) | exact HB.out)⟩⟩
 case rest =>
  clear mO
  try clear c1
  try clear c2
  try clear p2
  try clear c6
  try clear gT
  try clear c7
  try clear iB
  try clear j5
  try clear c8
  try clear c9
  try clear c10
  try clear c13
  try clear c15
  try clear c16
  try clear c19
  try clear iQ
  try clear arM
  try clear arN
  try clear arO
  try clear arP
  try clear arQ
  try clear arR
  try clear arS
  try clear arT
  try clear arU
  try clear arV
  try clear arW
  try clear arX
  try clear arY
  try clear zh
  try clear zi
  try clear zk
  try clear zl
  try clear zm
  try clear BS
  try clear BU
  try clear ac8
  try clear ac9
  try clear ac_
  try clear BX
  try clear BZ
  try clear B_
  try clear ada
  try clear adb
  try clear ade
  try clear adf
  try clear adg
  try clear Sk
  try clear Sl
  try clear Sm
  try clear Sn
  try clear Sq
  try clear adS
  try clear adT
  try clear arZ
  try clear ar0
  try clear ar1
  try clear adU
  try clear adV
  try clear adW
  try clear ar2
  try clear ar3
  try clear ar4
  try clear ar5
  try clear ar6
  try clear DX
  try clear DY
  try clear DZ
  try clear D5
  try clear D6
  try clear ar7
  try clear ar8
  try clear ar9
  try clear ar_
  try clear asa
  try clear asb
  try clear asc
  try clear ase
  try clear asf
  try clear asg
  try clear ash
  try clear asi
  try clear asj
  try clear asl
  try clear asn
  try clear aso
  try clear asq
  try clear asr
  try clear asu
  try clear asv
  try clear asw
  try clear asx
  try clear asy
  try clear asz
  try clear asA
  try clear asB
  try clear asC
  try clear asD
  try clear asE
  try clear asF
  try clear asG
  try clear asH
  try clear asI
  try clear asJ
  try clear asK
  try clear asL
  try clear asM
  try clear asN
  try clear asO
  try clear asP
  try clear asQ
  try clear asR
  try clear asS
  try clear asT
  try clear asU
  try clear asV
  try clear asW
  try clear asX
  try clear asY
  try clear zn
  try clear zo
  try clear zq
  try clear zu
  try clear zw
  try clear Ca
  try clear Cb
  try clear adn
  try clear ado
  try clear adp
  try clear Cc
  try clear Ce
  try clear Cg
  try clear adq
  try clear adr
  try clear ads
  try clear adt
  try clear adu
  try clear Sr
  try clear Sv
  try clear Sw
  try clear Sy
  try clear Sz
  try clear adX
  try clear adY
  try clear asZ
  try clear as0
  try clear as1
  try clear adZ
  try clear ad1
  try clear ad2
  try clear as4
  try clear as5
  try clear as6
  try clear as7
  try clear as8
  try clear D7
  try clear D8
  try clear D9
  try clear D_
  try clear Ea
  try clear as9
  try clear as_
  try clear ata
  try clear atb
  try clear atc
  try clear atd
  try clear ate
  try clear atf
  try clear atg
  try clear ath
  try clear ati
  try clear atj
  try clear atl
  try clear atm
  try clear atn
  try clear ato
  try clear atp
  try clear atq
  try clear atr
  try clear att
  try clear atu
  try clear atv
  try clear atw
  try clear atx
  try clear aty
  try clear atz
  try clear atA
  try clear atB
  try clear atC
  try clear atD
  try clear atE
  try clear atF
  try clear atG
  try clear atH
  try clear atI
  try clear atJ
  obtain ⟨kq, H8, rfl, HA, HJ2, aZ, aC, HB⟩ := hcut
  cases kq with
  | zero => exact absurd HA.out (by simp [fP.j0])
  | succ iP =>
   have H := HA.out
   clear HA
   simp only [fP.j0] at H
   by_cases iZ : H8 = true
   ·subst iZ
    have H1 : (some false) = some r := by rw [if_pos rfl] at H; exact H
    clear H
    have H := H1
    clear H1
    obtain rfl := Option.some.inj H
    go_wp2
    go_ret
    exact ⟨by first | rfl | (simp [aQ, aR] <;> rfl) | (simp [*, aQ, aR] <;> rfl), by repeat (first | (with_reducible first | exact HB.out | apply bA | apply pN | apply au | refine bS ?_ iU.out | refine bS ?_ jm.out) | exact HB.out)⟩
   ·replace iZ := Bool.eq_false_iff.mpr iZ
    subst iZ
    have H1 : (if ah = 4 then (if bg = 0 then ((jE.f iP bq bC bE bF bG).bind fun t144 => (if t144 = 0 then ((uq.f bq bC bE bF bG).bind fun t145 => (if t145 = true then (some (bq != 5)) else (some false))) else (some false))) else (some false)) else (if ((gu bq 0 bC 0 bE (⟨#[]⟩ : ByteArray) bF false bG false) = true) then (if ah = 0 then (some (bg == 0)) else (if ah = 1 then (if bg = 0 then (some true) else (some (bg == 1))) else ((wN.f (ah == 3) av bg).bind fun Dy => (some Dy.1)))) else (some false))) = some r := by rw [if_neg (show ¬ (false = true) by decide)] at H; exact H
    clear H
    have H := H1
    clear H1
    by_cases lK : ah = 4
    ·rw [if_pos lK] at H
     have Tn : (ah == 4) = true := beq_iff_eq.mpr lK
     have Tp : (ah != 4) = false := bne_eq_false_iff_eq.mpr lK
     clear lK
     by_cases z_ : bg = 0
     ·rw [if_pos z_] at H
      have Tq : (bg == 0) = true := beq_iff_eq.mpr z_
      have aeh : (bg != 0) = false := bne_eq_false_iff_eq.mpr z_
      clear z_
      replace H := Option.bind_eq_some_iff.mp H
      obtain ⟨t144, ED, H⟩ := H
      replace H : (if t144 = 0 then ((uq.f bq bC bE bF bG).bind fun t145 => (if t145 = true then (some (bq != 5)) else (some false))) else (some false)) = some r := H
      have EF := am ED
      clear ED
      by_cases ow : t144 = 0
      ·rw [if_pos ow] at H
       have Tt : (t144 == 0) = true := beq_iff_eq.mpr ow
       have Tv : (t144 != 0) = false := bne_eq_false_iff_eq.mpr ow
       clear ow
       replace H := Option.bind_eq_some_iff.mp H
       obtain ⟨t145, Tw, H⟩ := H
       replace H : (if t145 = true then (some (bq != 5)) else (some false)) = some r := H
       have fH := am Tw
       clear Tw
       by_cases c31 : t145 = true
       ·subst c31
        have H1 : (some (bq != 5)) = some r := by rw [if_pos rfl] at H; exact H
        clear H
        have H := H1
        clear H1
        obtain rfl := Option.some.inj H
        have atK := nS.out
        have atL := nT.out
        have := cz aZ.out 0 rfl
        have := cz aZ.out 1 rfl
        have := cz aZ.out 2 rfl
        have := cz aZ.out 3 rfl
        have := cz aZ.out 4 rfl
        have := fz aZ.out 0
        have := fz aZ.out 1
        have := fz aZ.out 2
        have := fz aZ.out 3
        have := fz aZ.out 4
        have := cz aC.out 0 rfl
        have := cz aC.out 1 rfl
        have := cz aC.out 2 rfl
        have := cz aC.out 3 rfl
        have := cz aC.out 4 rfl
        have := cz aC.out 5 rfl
        have := cz aC.out 6 rfl
        have := cz aC.out 7 rfl
        have := cz aC.out 8 rfl
        have := cz aC.out 9 rfl
        have := cz aC.out 10 rfl
        have := cz aC.out 11 rfl
        have := cz aC.out 12 rfl
        have := fz aC.out 0
        have := fz aC.out 1
        have := fz aC.out 2
        have := fz aC.out 3
        have := fz aC.out 4
        have := fz aC.out 5
        have := fz aC.out 6
        have := fz aC.out 7
        have := fz aC.out 8
        have := fz aC.out 9
        have := fz aC.out 10
        have := fz aC.out 11
        have := fz aC.out 12
        go_wp2_with (first | (go_at_call 14; (with_reducible refine (jE.calls iP bq bC bE bF bG t144 _ ?dB EF.out).mono ?_); (case dB => exact HT.out.below (by repeat (first | (with_reducible first | exact HB.out | apply bA | apply pN | apply au | refine bS ?_ iU.out | refine bS ?_ jm.out) | exact HB.out))); rintro e Tx ⟨rfl, hb⟩; have ay := am (kB (g := nR) (o := .cells #[.int .i64 ah, .int .i64 av, .string aG, .bool aJ, .bool aI] 29 (0, 0)) (by (with_reducible repeat (first | apply kN | apply kD | apply kA)); exact aZ.out) hb); have aA := am (kB (g := rG) (o := .cells #[.int .i64 bJ, .int .i64 bK, .string bL, .bool bM, .bool bN, .int .i64 bg, .bool bU, .string bH, .int .i64 bq, .int .i64 bC, .string bE, .bool bF, .bool bG] 31 (0, 0)) (by (with_reducible repeat (first | apply kN | apply kD | apply kA)); exact aC.out) hb); have aK := am (bP (by repeat (first | (with_reducible first | exact HB.out | apply bA | apply pN | apply au | refine bS ?_ iU.out | refine bS ?_ jm.out) | exact HB.out)) hb); clear aZ; clear aC; clear HB; have aZ := ay; have aC := aA; have HB := aK; clear ay aA aK; (try clear hb); (try clear hb2); (try clear hk); (try clear hi); have := cz aC.out 0 rfl; have := cz aC.out 1 rfl; have := cz aC.out 2 rfl; have := cz aC.out 3 rfl; have := cz aC.out 4 rfl; have := cz aC.out 5 rfl; have := cz aC.out 6 rfl; have := cz aC.out 7 rfl; have := cz aC.out 8 rfl; have := cz aC.out 9 rfl; have := cz aC.out 10 rfl; have := cz aC.out 11 rfl; have := cz aC.out 12 rfl; have := fz aC.out 0; have := fz aC.out 1; have := fz aC.out 2; have := fz aC.out 3; have := fz aC.out 4; have := fz aC.out 5; have := fz aC.out 6; have := fz aC.out 7; have := fz aC.out 8; have := fz aC.out 9; have := fz aC.out 10; have := fz aC.out 11; have := fz aC.out 12) | (go_at_call 34; (with_reducible refine (uq.calls bq bC bE bF bG true _ fH.out).mono ?_); rintro e w37 ⟨rfl, hb⟩; have ay := am (kB (g := nR) (o := .cells #[.int .i64 ah, .int .i64 av, .string aG, .bool aJ, .bool aI] 29 (0, 0)) (by (with_reducible repeat (first | apply kN | apply kD | apply kA)); exact aZ.out) hb); have aA := am (kB (g := rG) (o := .cells #[.int .i64 bJ, .int .i64 bK, .string bL, .bool bM, .bool bN, .int .i64 bg, .bool bU, .string bH, .int .i64 bq, .int .i64 bC, .string bE, .bool bF, .bool bG] 31 (0, 0)) (by (with_reducible repeat (first | apply kN | apply kD | apply kA)); exact aC.out) hb); have aK := am (bP (by repeat (first | (with_reducible first | exact HB.out | apply bA | apply pN | apply au | refine bS ?_ iU.out | refine bS ?_ jm.out) | exact HB.out)) hb); clear aZ; clear aC; clear HB; have aZ := ay; have aC := aA; have HB := aK; clear ay aA aK; (try clear hb); (try clear hb2); (try clear hk); (try clear hi); have := cz aC.out 0 rfl; have := cz aC.out 1 rfl; have := cz aC.out 2 rfl; have := cz aC.out 3 rfl; have := cz aC.out 4 rfl; have := cz aC.out 5 rfl; have := cz aC.out 6 rfl; have := cz aC.out 7 rfl; have := cz aC.out 8 rfl; have := cz aC.out 9 rfl; have := cz aC.out 10 rfl; have := cz aC.out 11 rfl; have := cz aC.out 12 rfl; have := fz aC.out 0; have := fz aC.out 1; have := fz aC.out 2; have := fz aC.out 3; have := fz aC.out 4; have := fz aC.out 5; have := fz aC.out 6; have := fz aC.out 7; have := fz aC.out 8; have := fz aC.out 9; have := fz aC.out 10; have := fz aC.out 11; have := fz aC.out 12))
        go_ret
        exact ⟨by first | rfl | (simp [aQ, aR] <;> rfl) | (simp [*, aQ, aR] <;> rfl), by repeat (first | (with_reducible first | exact HB.out | apply bA | apply pN | apply au | refine bS ?_ iU.out | refine bS ?_ jm.out) | exact HB.out)⟩
       ·replace c31 := Bool.eq_false_iff.mpr c31
        subst c31
        have H1 : (some false) = some r := by rw [if_neg (show ¬ (false = true) by decide)] at H; exact H
        clear H
        have H := H1
        clear H1
        obtain rfl := Option.some.inj H
        have atM := nS.out
        have atN := nT.out
        have := cz aZ.out 0 rfl
        have := cz aZ.out 1 rfl
        have := cz aZ.out 2 rfl
        have := cz aZ.out 3 rfl
        have := cz aZ.out 4 rfl
        have := fz aZ.out 0
        have := fz aZ.out 1
        have := fz aZ.out 2
        have := fz aZ.out 3
        have := fz aZ.out 4
        have := cz aC.out 0 rfl
        have := cz aC.out 1 rfl
        have := cz aC.out 2 rfl
        have := cz aC.out 3 rfl
        have := cz aC.out 4 rfl
        have := cz aC.out 5 rfl
        have := cz aC.out 6 rfl
        have := cz aC.out 7 rfl
        have := cz aC.out 8 rfl
        have := cz aC.out 9 rfl
        have := cz aC.out 10 rfl
        have := cz aC.out 11 rfl
        have := cz aC.out 12 rfl
        have := fz aC.out 0
        have := fz aC.out 1
        have := fz aC.out 2
        have := fz aC.out 3
        have := fz aC.out 4
        have := fz aC.out 5
        have := fz aC.out 6
        have := fz aC.out 7
        have := fz aC.out 8
        have := fz aC.out 9
        have := fz aC.out 10
        have := fz aC.out 11
        have := fz aC.out 12
        go_wp2_with (first | (go_at_call 14; (with_reducible refine (jE.calls iP bq bC bE bF bG t144 _ ?dB EF.out).mono ?_); (case dB => exact HT.out.below (by repeat (first | (with_reducible first | exact HB.out | apply bA | apply pN | apply au | refine bS ?_ iU.out | refine bS ?_ jm.out) | exact HB.out))); rintro e w42 ⟨rfl, hb⟩; have ay := am (kB (g := nR) (o := .cells #[.int .i64 ah, .int .i64 av, .string aG, .bool aJ, .bool aI] 29 (0, 0)) (by (with_reducible repeat (first | apply kN | apply kD | apply kA)); exact aZ.out) hb); have aA := am (kB (g := rG) (o := .cells #[.int .i64 bJ, .int .i64 bK, .string bL, .bool bM, .bool bN, .int .i64 bg, .bool bU, .string bH, .int .i64 bq, .int .i64 bC, .string bE, .bool bF, .bool bG] 31 (0, 0)) (by (with_reducible repeat (first | apply kN | apply kD | apply kA)); exact aC.out) hb); have aK := am (bP (by repeat (first | (with_reducible first | exact HB.out | apply bA | apply pN | apply au | refine bS ?_ iU.out | refine bS ?_ jm.out) | exact HB.out)) hb); clear aZ; clear aC; clear HB; have aZ := ay; have aC := aA; have HB := aK; clear ay aA aK; (try clear hb); (try clear hb2); (try clear hk); (try clear hi); have := cz aC.out 0 rfl; have := cz aC.out 1 rfl; have := cz aC.out 2 rfl; have := cz aC.out 3 rfl; have := cz aC.out 4 rfl; have := cz aC.out 5 rfl; have := cz aC.out 6 rfl; have := cz aC.out 7 rfl; have := cz aC.out 8 rfl; have := cz aC.out 9 rfl; have := cz aC.out 10 rfl; have := cz aC.out 11 rfl; have := cz aC.out 12 rfl; have := fz aC.out 0; have := fz aC.out 1; have := fz aC.out 2; have := fz aC.out 3; have := fz aC.out 4; have := fz aC.out 5; have := fz aC.out 6; have := fz aC.out 7; have := fz aC.out 8; have := fz aC.out 9; have := fz aC.out 10; have := fz aC.out 11; have := fz aC.out 12) | (go_at_call 34; (with_reducible refine (uq.calls bq bC bE bF bG false _ fH.out).mono ?_); rintro e w44 ⟨rfl, hb⟩; have ay := am (kB (g := nR) (o := .cells #[.int .i64 ah, .int .i64 av, .string aG, .bool aJ, .bool aI] 29 (0, 0)) (by (with_reducible repeat (first | apply kN | apply kD | apply kA)); exact aZ.out) hb); have aA := am (kB (g := rG) (o := .cells #[.int .i64 bJ, .int .i64 bK, .string bL, .bool bM, .bool bN, .int .i64 bg, .bool bU, .string bH, .int .i64 bq, .int .i64 bC, .string bE, .bool bF, .bool bG] 31 (0, 0)) (by (with_reducible repeat (first | apply kN | apply kD | apply kA)); exact aC.out) hb); have aK := am (bP (by repeat (first | (with_reducible first | exact HB.out | apply bA | apply pN | apply au | refine bS ?_ iU.out | refine bS ?_ jm.out) | exact HB.out)) hb); clear aZ; clear aC; clear HB; have aZ := ay; have aC := aA; have HB := aK; clear ay aA aK; (try clear hb); (try clear hb2); (try clear hk); (try clear hi)))
        go_ret
        exact ⟨by first | rfl | (simp [aQ, aR] <;> rfl) | (simp [*, aQ, aR] <;> rfl), by repeat (first | (with_reducible first | exact HB.out | apply bA | apply pN | apply au | refine bS ?_ iU.out | refine bS ?_ jm.out) | exact HB.out)⟩
      ·rw [if_neg ow] at H
       have Tt : (t144 == 0) = false := beq_eq_false_iff_ne.mpr ow
       have Tv : (t144 != 0) = true := bne_iff_ne.mpr ow
       obtain rfl := Option.some.inj H
       have atP := nS.out
       have atQ := nT.out
       have := cz aZ.out 0 rfl
       have := cz aZ.out 1 rfl
       have := cz aZ.out 2 rfl
       have := cz aZ.out 3 rfl
       have := cz aZ.out 4 rfl
       have := fz aZ.out 0
       have := fz aZ.out 1
       have := fz aZ.out 2
       have := fz aZ.out 3
       have := fz aZ.out 4
       have := cz aC.out 0 rfl
       have := cz aC.out 1 rfl
       have := cz aC.out 2 rfl
       have := cz aC.out 3 rfl
       have := cz aC.out 4 rfl
       have := cz aC.out 5 rfl
       have := cz aC.out 6 rfl
       have := cz aC.out 7 rfl
       have := cz aC.out 8 rfl
       have := cz aC.out 9 rfl
       have := cz aC.out 10 rfl
       have := cz aC.out 11 rfl
       have := cz aC.out 12 rfl
       have := fz aC.out 0
       have := fz aC.out 1
       have := fz aC.out 2
       have := fz aC.out 3
       have := fz aC.out 4
       have := fz aC.out 5
       have := fz aC.out 6
       have := fz aC.out 7
       have := fz aC.out 8
       have := fz aC.out 9
       have := fz aC.out 10
       have := fz aC.out 11
       have := fz aC.out 12
       go_wp2_with (first | (go_at_call 14; (with_reducible refine (jE.calls iP bq bC bE bF bG t144 _ ?dB EF.out).mono ?_); (case dB => exact HT.out.below (by repeat (first | (with_reducible first | exact HB.out | apply bA | apply pN | apply au | refine bS ?_ iU.out | refine bS ?_ jm.out) | exact HB.out))); rintro e w48 ⟨rfl, hb⟩; have ay := am (kB (g := nR) (o := .cells #[.int .i64 ah, .int .i64 av, .string aG, .bool aJ, .bool aI] 29 (0, 0)) (by (with_reducible repeat (first | apply kN | apply kD | apply kA)); exact aZ.out) hb); have aA := am (kB (g := rG) (o := .cells #[.int .i64 bJ, .int .i64 bK, .string bL, .bool bM, .bool bN, .int .i64 bg, .bool bU, .string bH, .int .i64 bq, .int .i64 bC, .string bE, .bool bF, .bool bG] 31 (0, 0)) (by (with_reducible repeat (first | apply kN | apply kD | apply kA)); exact aC.out) hb); have aK := am (bP (by repeat (first | (with_reducible first | exact HB.out | apply bA | apply pN | apply au | refine bS ?_ iU.out | refine bS ?_ jm.out) | exact HB.out)) hb); clear aZ; clear aC; clear HB; have aZ := ay; have aC := aA; have HB := aK; clear ay aA aK; (try clear hb); (try clear hb2); (try clear hk); (try clear hi)))
       go_ret
       exact ⟨by first | rfl | (simp [aQ, aR] <;> rfl) | (simp [*, aQ, aR] <;> rfl), by repeat (first | (with_reducible first | exact HB.out | apply bA | apply pN | apply au | refine bS ?_ iU.out | refine bS ?_ jm.out) | exact HB.out)⟩
     ·rw [if_neg z_] at H
      have Tq : (bg == 0) = false := beq_eq_false_iff_ne.mpr z_
      have aeh : (bg != 0) = true := bne_iff_ne.mpr z_
      obtain rfl := Option.some.inj H
      have acM := nS.out
      have acN := nT.out
      have := cz aZ.out 0 rfl
      have := cz aZ.out 1 rfl
      have := cz aZ.out 2 rfl
      have := cz aZ.out 3 rfl
      have := cz aZ.out 4 rfl
      have := fz aZ.out 0
      have := fz aZ.out 1
      have := fz aZ.out 2
      have := fz aZ.out 3
      have := fz aZ.out 4
      have := cz aC.out 0 rfl
      have := cz aC.out 1 rfl
      have := cz aC.out 2 rfl
      have := cz aC.out 3 rfl
      have := cz aC.out 4 rfl
      have := cz aC.out 5 rfl
      have := cz aC.out 6 rfl
      have := cz aC.out 7 rfl
      have := cz aC.out 8 rfl
      have := cz aC.out 9 rfl
      have := cz aC.out 10 rfl
      have := cz aC.out 11 rfl
      have := cz aC.out 12 rfl
      have := fz aC.out 0
      have := fz aC.out 1
      have := fz aC.out 2
      have := fz aC.out 3
      have := fz aC.out 4
      have := fz aC.out 5
      have := fz aC.out 6
      have := fz aC.out 7
      have := fz aC.out 8
      have := fz aC.out 9
      have := fz aC.out 10
      have := fz aC.out 11
      have := fz aC.out 12
      go_wp2
      go_ret
      exact ⟨by first | rfl | (simp [aQ, aR] <;> rfl) | (simp [*, aQ, aR] <;> rfl), by repeat (first | (with_reducible first | exact HB.out | apply bA | apply pN | apply au | refine bS ?_ iU.out | refine bS ?_ jm.out) | exact HB.out)⟩
    ·rw [if_neg lK] at H
     have Tn : (ah == 4) = false := beq_eq_false_iff_ne.mpr lK
     have Tp : (ah != 4) = true := bne_iff_ne.mpr lK
     by_cases Cr : ((gu bq 0 bC 0 bE (⟨#[]⟩ : ByteArray) bF false bG false) = true)
     ·rw [if_pos Cr] at H
      have aej : (gu bq 0 bC 0 bE (⟨#[]⟩ : ByteArray) bF false bG false) = true := Cr
      clear Cr
      by_cases c53 : ah = 0
      ·rw [if_pos c53] at H
       have aek : (ah == 0) = true := beq_iff_eq.mpr c53
       have ael : (ah != 0) = false := bne_eq_false_iff_eq.mpr c53
       clear c53
       obtain rfl := Option.some.inj H
       have atT := nS.out
       have atU := nT.out
       have := cz aZ.out 0 rfl
       have := cz aZ.out 1 rfl
       have := cz aZ.out 2 rfl
       have := cz aZ.out 3 rfl
       have := cz aZ.out 4 rfl
       have := fz aZ.out 0
       have := fz aZ.out 1
       have := fz aZ.out 2
       have := fz aZ.out 3
       have := fz aZ.out 4
       have := cz aC.out 0 rfl
       have := cz aC.out 1 rfl
       have := cz aC.out 2 rfl
       have := cz aC.out 3 rfl
       have := cz aC.out 4 rfl
       have := cz aC.out 5 rfl
       have := cz aC.out 6 rfl
       have := cz aC.out 7 rfl
       have := cz aC.out 8 rfl
       have := cz aC.out 9 rfl
       have := cz aC.out 10 rfl
       have := cz aC.out 11 rfl
       have := cz aC.out 12 rfl
       have := fz aC.out 0
       have := fz aC.out 1
       have := fz aC.out 2
       have := fz aC.out 3
       have := fz aC.out 4
       have := fz aC.out 5
       have := fz aC.out 6
       have := fz aC.out 7
       have := fz aC.out 8
       have := fz aC.out 9
       have := fz aC.out 10
       have := fz aC.out 11
       have := fz aC.out 12
       go_wp2
       go_ret
       exact ⟨by first | rfl | (simp [aQ, aR] <;> rfl) | (simp [*, aQ, aR] <;> rfl), by repeat (first | (with_reducible first | exact HB.out | apply bA | apply pN | apply au | refine bS ?_ iU.out | refine bS ?_ jm.out) | exact HB.out)⟩
      ·rw [if_neg c53] at H
       have aek : (ah == 0) = false := beq_eq_false_iff_ne.mpr c53
       have ael : (ah != 0) = true := bne_iff_ne.mpr c53
       by_cases Aa : ah = 1
       ·rw [if_pos Aa] at H
        have aem : (ah == 1) = true := beq_iff_eq.mpr Aa
        have aen : (ah != 1) = false := bne_eq_false_iff_eq.mpr Aa
        clear Aa
        by_cases Ab : bg = 0
        ·rw [if_pos Ab] at H
         have aeo : (bg == 0) = true := beq_iff_eq.mpr Ab
         have aep : (bg != 0) = false := bne_eq_false_iff_eq.mpr Ab
         clear Ab
         obtain rfl := Option.some.inj H
         have acO := nS.out
         have acP := nT.out
         have := cz aZ.out 0 rfl
         have := cz aZ.out 1 rfl
         have := cz aZ.out 2 rfl
         have := cz aZ.out 3 rfl
         have := cz aZ.out 4 rfl
         have := fz aZ.out 0
         have := fz aZ.out 1
         have := fz aZ.out 2
         have := fz aZ.out 3
         have := fz aZ.out 4
         have := cz aC.out 0 rfl
         have := cz aC.out 1 rfl
         have := cz aC.out 2 rfl
         have := cz aC.out 3 rfl
         have := cz aC.out 4 rfl
         have := cz aC.out 5 rfl
         have := cz aC.out 6 rfl
         have := cz aC.out 7 rfl
         have := cz aC.out 8 rfl
         have := cz aC.out 9 rfl
         have := cz aC.out 10 rfl
         have := cz aC.out 11 rfl
         have := cz aC.out 12 rfl
         have := fz aC.out 0
         have := fz aC.out 1
         have := fz aC.out 2
         have := fz aC.out 3
         have := fz aC.out 4
         have := fz aC.out 5
         have := fz aC.out 6
         have := fz aC.out 7
         have := fz aC.out 8
         have := fz aC.out 9
         have := fz aC.out 10
         have := fz aC.out 11
         have := fz aC.out 12
         go_wp2
         go_ret
         exact ⟨by first | rfl | (simp [aQ, aR] <;> rfl) | (simp [*, aQ, aR] <;> rfl), by repeat (first | (with_reducible first | exact HB.out | apply bA | apply pN | apply au | refine bS ?_ iU.out | refine bS ?_ jm.out) | exact HB.out)⟩
        ·rw [if_neg Ab] at H
         have aeo : (bg == 0) = false := beq_eq_false_iff_ne.mpr Ab
         have aep : (bg != 0) = true := bne_iff_ne.mpr Ab
         obtain rfl := Option.some.inj H
         have atV := nS.out
         have atW := nT.out
         have := cz aZ.out 0 rfl
         have := cz aZ.out 1 rfl
         have := cz aZ.out 2 rfl
         have := cz aZ.out 3 rfl
         have := cz aZ.out 4 rfl
         have := fz aZ.out 0
         have := fz aZ.out 1
         have := fz aZ.out 2
         have := fz aZ.out 3
         have := fz aZ.out 4
         have := cz aC.out 0 rfl
         have := cz aC.out 1 rfl
         have := cz aC.out 2 rfl
         have := cz aC.out 3 rfl
         have := cz aC.out 4 rfl
         have := cz aC.out 5 rfl
         have := cz aC.out 6 rfl
         have := cz aC.out 7 rfl
         have := cz aC.out 8 rfl
         have := cz aC.out 9 rfl
         have := cz aC.out 10 rfl
         have := cz aC.out 11 rfl
         have := cz aC.out 12 rfl
         have := fz aC.out 0
         have := fz aC.out 1
         have := fz aC.out 2
         have := fz aC.out 3
         have := fz aC.out 4
         have := fz aC.out 5
         have := fz aC.out 6
         have := fz aC.out 7
         have := fz aC.out 8
         have := fz aC.out 9
         have := fz aC.out 10
         have := fz aC.out 11
         have := fz aC.out 12
         go_wp2
         go_ret
         exact ⟨by first | rfl | (simp [aQ, aR] <;> rfl) | (simp [*, aQ, aR] <;> rfl), by repeat (first | (with_reducible first | exact HB.out | apply bA | apply pN | apply au | refine bS ?_ iU.out | refine bS ?_ jm.out) | exact HB.out)⟩
       ·rw [if_neg Aa] at H
        have aem : (ah == 1) = false := beq_eq_false_iff_ne.mpr Aa
        have aen : (ah != 1) = true := bne_iff_ne.mpr Aa
        replace H := Option.bind_eq_some_iff.mp H
        obtain ⟨⟨t146, t147⟩, Tz, H⟩ := H
        replace H : (some t146) = some r := H
        have A65 := am Tz
        clear Tz
        obtain rfl := Option.some.inj H
        have acQ := nS.out
        have acR := nT.out
        have := cz aZ.out 0 rfl
        have := cz aZ.out 1 rfl
        have := cz aZ.out 2 rfl
        have := cz aZ.out 3 rfl
        have := cz aZ.out 4 rfl
        have := fz aZ.out 0
        have := fz aZ.out 1
        have := fz aZ.out 2
        have := fz aZ.out 3
        have := fz aZ.out 4
        have := cz aC.out 0 rfl
        have := cz aC.out 1 rfl
        have := cz aC.out 2 rfl
        have := cz aC.out 3 rfl
        have := cz aC.out 4 rfl
        have := cz aC.out 5 rfl
        have := cz aC.out 6 rfl
        have := cz aC.out 7 rfl
        have := cz aC.out 8 rfl
        have := cz aC.out 9 rfl
        have := cz aC.out 10 rfl
        have := cz aC.out 11 rfl
        have := cz aC.out 12 rfl
        have := fz aC.out 0
        have := fz aC.out 1
        have := fz aC.out 2
        have := fz aC.out 3
        have := fz aC.out 4
        have := fz aC.out 5
        have := fz aC.out 6
        have := fz aC.out 7
        have := fz aC.out 8
        have := fz aC.out 9
        have := fz aC.out 10
        have := fz aC.out 11
        have := fz aC.out 12
        go_wp2_with (first | ((with_reducible refine bY (f := 35) rfl ?_); refine b_ (some 83) rfl rfl Tryz.func35 (by kernel_rfl) rfl #[.agg #[.bool (ah == 3), .int .i64 av], .int .i64 bg] rfl (by (try simp only [List.map_toArray, List.map_cons, List.map_nil]); first | done | rfl | (simp only [List.length_drop, List.length_take]; rfl)) ?_; (with_reducible refine (wN.calls (ah == 3) av bg t146 t147 _ A65.out).mono ?_); rintro e w69 ⟨rfl, hb⟩; refine ⟨_, rfl, ?_⟩; have ay := am (kB (g := nR) (o := .cells #[.int .i64 ah, .int .i64 av, .string aG, .bool aJ, .bool aI] 29 (0, 0)) (by (with_reducible repeat (first | apply kN | apply kD | apply kA)); exact aZ.out) hb); have aA := am (kB (g := rG) (o := .cells #[.int .i64 bJ, .int .i64 bK, .string bL, .bool bM, .bool bN, .int .i64 bg, .bool bU, .string bH, .int .i64 bq, .int .i64 bC, .string bE, .bool bF, .bool bG] 31 (0, 0)) (by (with_reducible repeat (first | apply kN | apply kD | apply kA)); exact aC.out) hb); have aK := am (bP (by repeat (first | (with_reducible first | exact HB.out | apply bA | apply pN | apply au | refine bS ?_ iU.out | refine bS ?_ jm.out) | exact HB.out)) hb); clear aZ; clear aC; clear HB; have aZ := ay; have aC := aA; have HB := aK; clear ay aA aK; (try clear hb); (try clear hb2); (try clear hk); (try clear hi)))
        go_ret
        exact ⟨by first | rfl | (simp [aQ, aR] <;> rfl) | (simp [*, aQ, aR] <;> rfl), by repeat (first | (with_reducible first | exact HB.out | apply bA | apply pN | apply au | refine bS ?_ iU.out | refine bS ?_ jm.out) | exact HB.out)⟩
     ·rw [if_neg Cr] at H
      have aej : (gu bq 0 bC 0 bE (⟨#[]⟩ : ByteArray) bF false bG false) = false := by simpa using Cr
      clear Cr
      obtain rfl := Option.some.inj H
      have acT := nS.out
      have acU := nT.out
      have := cz aZ.out 0 rfl
      have := cz aZ.out 1 rfl
      have := cz aZ.out 2 rfl
      have := cz aZ.out 3 rfl
      have := cz aZ.out 4 rfl
      have := fz aZ.out 0
      have := fz aZ.out 1
      have := fz aZ.out 2
      have := fz aZ.out 3
      have := fz aZ.out 4
      have := cz aC.out 0 rfl
      have := cz aC.out 1 rfl
      have := cz aC.out 2 rfl
      have := cz aC.out 3 rfl
      have := cz aC.out 4 rfl
      have := cz aC.out 5 rfl
      have := cz aC.out 6 rfl
      have := cz aC.out 7 rfl
      have := cz aC.out 8 rfl
      have := cz aC.out 9 rfl
      have := cz aC.out 10 rfl
      have := cz aC.out 11 rfl
      have := cz aC.out 12 rfl
      have := fz aC.out 0
      have := fz aC.out 1
      have := fz aC.out 2
      have := fz aC.out 3
      have := fz aC.out 4
      have := fz aC.out 5
      have := fz aC.out 6
      have := fz aC.out 7
      have := fz aC.out 8
      have := fz aC.out 9
      have := fz aC.out 10
      have := fz aC.out 11
      have := fz aC.out 12
      go_wp2
      go_ret
      exact ⟨by first | rfl | (simp [aQ, aR] <;> rfl) | (simp [*, aQ, aR] <;> rfl), by repeat (first | (with_reducible first | exact HB.out | apply bA | apply pN | apply au | refine bS ?_ iU.out | refine bS ?_ jm.out) | exact HB.out)⟩
end Go.Proofs.YtgliaoanlhbepaaGreatDoor.Q
