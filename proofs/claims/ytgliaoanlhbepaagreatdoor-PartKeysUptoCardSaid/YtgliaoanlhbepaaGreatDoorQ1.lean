/- Walks, printed by a program of this session: what each function of the law computes. -/
import Derived.Test.YtgliaoanlhbepaaGreatDoorQ0
namespace Go.Proofs.YtgliaoanlhbepaaGreatDoor.Q
open Go.RowKit Go.Proofs.bT.eG Go.Proofs.bT.iM Go.Proofs.bT.jd
open Go.Proofs.bT.eG renaming lF → pN, lZ → au, l6 → bA, mZ → bS, m_ → bZ, ng → bP, ni → kN, nk → kD, nu → kA, ny → fz, nA → kB, lH → kL
attribute [local go_sem] nC nD nE nG nH nI nJ nK
set_option maxHeartbeats 8000000
set_option maxRecDepth 100000
set_option linter.unusedVariables false
set_option linter.unusedSimpArgs false
noncomputable def gu (x0 y0 : Int) (x1 y1 : Int) (x2 y2 : ByteArray) (x3 y3 : Bool) (x4 y4 : Bool) : Bool := x0 == y0 && (x1 == y1 && (x2.toList == y2.toList && (x3 == y3 && (x4 == y4))))
theorem Le (d : Nat) (w : World) (x0 y0 : Int) (x1 y1 : Int) (x2 y2 : ByteArray) (x3 y3 : Bool) (x4 y4 : Bool) :
 (Op.equalIn (d + 2) 29 (.agg #[.int .i64 x0, .int .i64 x1, .string x2, .bool x3, .bool x4]) (.agg #[.int .i64 y0, .int .i64 y1, .string y2, .bool y3, .bool y4])).run Tryz.prog w = .ok (gu x0 y0 x1 y1 x2 y2 x3 y3 x4 y4) w := by
 unfold gu
 refine ZO Tryz.underlying29 (by kernel_rfl) ?_
 refine Gw (by rfl) (by go_simp; rfl) (by go_simp; rfl) (by go_simp) ?_
 refine Gw (by rfl) (by go_simp; rfl) (by go_simp; rfl) (by go_simp) ?_
 refine Gw (by rfl) (by go_simp; rfl) (by go_simp; rfl) (by go_simp) ?_
 refine Gw (by rfl) (by go_simp; rfl) (by go_simp; rfl) (by go_simp) ?_
 exact ZP (by rfl) (by go_simp; rfl) (by go_simp; rfl) (by go_simp)
end Go.Proofs.YtgliaoanlhbepaaGreatDoor.Q
