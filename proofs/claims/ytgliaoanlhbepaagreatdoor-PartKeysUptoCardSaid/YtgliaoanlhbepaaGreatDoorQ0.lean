/- Walks, printed by a program of this session: what each function of the law computes. -/
import Derived.Test.YtgliaoanlhbepaaGreatDoorProg
import Derived.Below
import Derived.Deep.Draws
import Derived.Deep.AppendLies
import Derived.Maps.AppendAt
import Derived.OwnWalk
import Derived.Laws.BytesArg
import Derived.Laws.MakeOwn
import Derived.Laws.OwnMore
import Derived.Deep.OwnRows
import Derived.Tactics
import Derived.Lib.ConvBytes
import Derived.Laws.Slices
import Derived.WalkKit
import Derived.KernelRfl
import Derived.RowKit3
import Derived.Deep.LoopGhost
import Derived.Deep.QuietTactic
import Derived.BigQuiet
import Derived.WideLaws
import Derived.Deep.DeepCutAuto
import Derived.Deep.CutBlock
import Derived.Deep.RegionHeld3
import Derived.Laws.Rows
import Derived.Lib.AppendStr
import Derived.ArgAppend
import Derived.Laws.IdiomCopy
import Derived.OrdersHeld
import Derived.Laws.BitsLemmas
import Derived.RowKit
import Derived.Test.YtgliaoanlhbepaaGreatDoorG1
import Derived.Test.YtgliaoanlhbepaaGreatDoorW1
namespace Go.Proofs.YtgliaoanlhbepaaGreatDoor.Q
open Go.RowKit Go.Proofs.bT.eG Go.Proofs.bT.iM Go.Proofs.bT.jd
open Go.Proofs.bT.eG renaming lF → pN, lZ → au, l6 → bA, mZ → bS, m_ → bZ, ng → bP, ni → kN, nk → kD, nu → kA, ny → fz, nA → kB, lH → kL
attribute [local go_sem] nC nD nE nG nH nI nJ nK
theorem am {p : Prop} (h : p) : bI p := ⟨h⟩
theorem cz {w : World} {g : Nat} {t : TypeId} {cs : Array Value} {v : Value} (h : w.heap[g]? = some (.cells cs t (0, 0))) (i : Nat) (e : cs[i]? = some v) : w.cell? ⟨g, i, none⟩ = some v := (bQ h i).trans e
set_option maxHeartbeats 8000000
set_option maxRecDepth 100000
set_option linter.unusedVariables false
set_option linter.unusedSimpArgs false
theorem ZI : (Tryz.prog.info? 9).map (fun i => (i.zero, i.size, i.bytes)) = some (some (.string ⟨#[]⟩), 1, 16) := by kernel_rfl
theorem ZJ : (Tryz.prog.info? 109).map (fun i => (i.zero, i.size, i.bytes)) = some (some (.agg #[(.int .i64 0), (.int .i64 0), (.string ⟨#[]⟩)]), 3, 32) := by kernel_rfl
structure wR where
 f0 : Int
 f1 : Int
 f2 : ByteArray
 f3 : Bool
 f4 : Bool
noncomputable def z29 : wR := ⟨(0 : Int), (0 : Int), (⟨#[]⟩ : ByteArray), false, false⟩
noncomputable def Gv : Kd wR := Kd.Lc (Kd.pair (Kd.int .i64) (Kd.pair (Kd.int .i64) (Kd.pair Kd.string (Kd.pair Kd.bool Kd.bool)))) (fun x : wR => (x.f0, x.f1, x.f2, x.f3, x.f4))
theorem Rz {w : World} {x : wR} {cs : List Value} (h : Gv.K w x cs) : cs = [.int .i64 x.f0, .int .i64 x.f1, .string x.f2, .bool x.f3, .bool x.f4] := by
 obtain ⟨_, _, rfl, rfl, ⟨_, _, rfl, rfl, ⟨_, _, rfl, rfl, ⟨_, _, rfl, rfl, rfl⟩⟩⟩⟩ := h
 exact rfl
theorem RA (w : World) (x : wR)  : Gv.K w x [.int .i64 x.f0, .int .i64 x.f1, .string x.f2, .bool x.f3, .bool x.f4] := ⟨[.int .i64 x.f0], [.int .i64 x.f1, .string x.f2, .bool x.f3, .bool x.f4], rfl, rfl, ⟨[.int .i64 x.f1], [.string x.f2, .bool x.f3, .bool x.f4], rfl, rfl, ⟨[.string x.f2], [.bool x.f3, .bool x.f4], rfl, rfl, ⟨[.bool x.f3], [.bool x.f4], rfl, rfl, rfl⟩⟩⟩⟩
structure eP where
 f0 : wR
 f1 : Int
 f2 : Bool
 f3 : ByteArray
 f4 : wR
noncomputable def z31 : eP := ⟨z29, (0 : Int), false, (⟨#[]⟩ : ByteArray), z29⟩
noncomputable def uw : Kd eP := Kd.Lc (Kd.pair Gv (Kd.pair (Kd.int .i64) (Kd.pair Kd.bool (Kd.pair Kd.string Gv)))) (fun x : eP => (x.f0, x.f1, x.f2, x.f3, x.f4))
theorem ZK {w : World} {x : eP} {cs : List Value} (h : uw.K w x cs) : cs = [.int .i64 x.f0.f0, .int .i64 x.f0.f1, .string x.f0.f2, .bool x.f0.f3, .bool x.f0.f4, .int .i64 x.f1, .bool x.f2, .string x.f3, .int .i64 x.f4.f0, .int .i64 x.f4.f1, .string x.f4.f2, .bool x.f4.f3, .bool x.f4.f4] := by
 obtain ⟨_, _, rfl, s0, ⟨_, _, rfl, rfl, ⟨_, _, rfl, rfl, ⟨_, _, rfl, rfl, s8⟩⟩⟩⟩ := h
 obtain rfl := Rz s0
 obtain rfl := Rz s8
 exact rfl
theorem ZL (w : World) (x : eP)  : uw.K w x [.int .i64 x.f0.f0, .int .i64 x.f0.f1, .string x.f0.f2, .bool x.f0.f3, .bool x.f0.f4, .int .i64 x.f1, .bool x.f2, .string x.f3, .int .i64 x.f4.f0, .int .i64 x.f4.f1, .string x.f4.f2, .bool x.f4.f3, .bool x.f4.f4] := ⟨[.int .i64 x.f0.f0, .int .i64 x.f0.f1, .string x.f0.f2, .bool x.f0.f3, .bool x.f0.f4], [.int .i64 x.f1, .bool x.f2, .string x.f3, .int .i64 x.f4.f0, .int .i64 x.f4.f1, .string x.f4.f2, .bool x.f4.f3, .bool x.f4.f4], rfl, (RA w x.f0 ), ⟨[.int .i64 x.f1], [.bool x.f2, .string x.f3, .int .i64 x.f4.f0, .int .i64 x.f4.f1, .string x.f4.f2, .bool x.f4.f3, .bool x.f4.f4], rfl, rfl, ⟨[.bool x.f2], [.string x.f3, .int .i64 x.f4.f0, .int .i64 x.f4.f1, .string x.f4.f2, .bool x.f4.f3, .bool x.f4.f4], rfl, rfl, ⟨[.string x.f3], [.int .i64 x.f4.f0, .int .i64 x.f4.f1, .string x.f4.f2, .bool x.f4.f3, .bool x.f4.f4], rfl, rfl, (RA w x.f4 )⟩⟩⟩⟩
noncomputable def ak (xs : List eP) (i : Int) : eP := xs.getD i.toNat z31
theorem uy {w : World} {A : Option Addr} {n : Nat} {xs : List eP} (h : Kd.C uw w A n xs) (i : Int) (h0 : 0 ≤ i) (h1 : i < n) : ∃ ad , A = some ad ∧ w.cell? (ad.add (i.toNat * 13)) = some (.int .i64 (ak xs i).f0.f0) ∧ w.cell? ⟨(ad.add (i.toNat * 13)).block, (ad.add (i.toNat * 13)).off + 1, none⟩ = some (.int .i64 (ak xs i).f0.f1) ∧ w.cell? ⟨(ad.add (i.toNat * 13)).block, (ad.add (i.toNat * 13)).off + 2, none⟩ = some (.string (ak xs i).f0.f2) ∧ w.cell? ⟨(ad.add (i.toNat * 13)).block, (ad.add (i.toNat * 13)).off + 3, none⟩ = some (.bool (ak xs i).f0.f3) ∧ w.cell? ⟨(ad.add (i.toNat * 13)).block, (ad.add (i.toNat * 13)).off + 4, none⟩ = some (.bool (ak xs i).f0.f4) ∧ w.cell? ⟨(ad.add (i.toNat * 13)).block, (ad.add (i.toNat * 13)).off + 5, none⟩ = some (.int .i64 (ak xs i).f1) ∧ w.cell? ⟨(ad.add (i.toNat * 13)).block, (ad.add (i.toNat * 13)).off + 6, none⟩ = some (.bool (ak xs i).f2) ∧ w.cell? ⟨(ad.add (i.toNat * 13)).block, (ad.add (i.toNat * 13)).off + 7, none⟩ = some (.string (ak xs i).f3) ∧ w.cell? ⟨(ad.add (i.toNat * 13)).block, (ad.add (i.toNat * 13)).off + 8, none⟩ = some (.int .i64 (ak xs i).f4.f0) ∧ w.cell? ⟨(ad.add (i.toNat * 13)).block, (ad.add (i.toNat * 13)).off + 9, none⟩ = some (.int .i64 (ak xs i).f4.f1) ∧ w.cell? ⟨(ad.add (i.toNat * 13)).block, (ad.add (i.toNat * 13)).off + 10, none⟩ = some (.string (ak xs i).f4.f2) ∧ w.cell? ⟨(ad.add (i.toNat * 13)).block, (ad.add (i.toNat * 13)).off + 11, none⟩ = some (.bool (ak xs i).f4.f3) ∧ w.cell? ⟨(ad.add (i.toNat * 13)).block, (ad.add (i.toNat * 13)).off + 12, none⟩ = some (.bool (ak xs i).f4.f4) := by
 obtain ⟨ad, c, e, _, hK, hc0⟩ := Kd.RB h z31 i h0 h1
 have hc : ∀ j u, c[j]? = some u → w.cell? (ad.add (i.toNat * 13 + j)) = some u := hc0
 obtain rfl := ZK hK
 exact ⟨ad, e, hc 0 _ rfl, by rw [← nL _ _ 1 (by omega)]; exact hc 1 _ rfl, by rw [← nL _ _ 2 (by omega)]; exact hc 2 _ rfl, by rw [← nL _ _ 3 (by omega)]; exact hc 3 _ rfl, by rw [← nL _ _ 4 (by omega)]; exact hc 4 _ rfl, by rw [← nL _ _ 5 (by omega)]; exact hc 5 _ rfl, by rw [← nL _ _ 6 (by omega)]; exact hc 6 _ rfl, by rw [← nL _ _ 7 (by omega)]; exact hc 7 _ rfl, by rw [← nL _ _ 8 (by omega)]; exact hc 8 _ rfl, by rw [← nL _ _ 9 (by omega)]; exact hc 9 _ rfl, by rw [← nL _ _ 10 (by omega)]; exact hc 10 _ rfl, by rw [← nL _ _ 11 (by omega)]; exact hc 11 _ rfl, by rw [← nL _ _ 12 (by omega)]; exact hc 12 _ rfl⟩
structure iA where
 f0 : Int
 f1 : Int
 f2 : ByteArray
noncomputable def z109 : iA := ⟨(0 : Int), (0 : Int), (⟨#[]⟩ : ByteArray)⟩
noncomputable def yX : Kd iA := Kd.Lc (Kd.pair (Kd.int .i64) (Kd.pair (Kd.int .i64) Kd.string)) (fun x : iA => (x.f0, x.f1, x.f2))
theorem ZM {w : World} {x : iA} {cs : List Value} (h : yX.K w x cs) : cs = [.int .i64 x.f0, .int .i64 x.f1, .string x.f2] := by
 obtain ⟨_, _, rfl, rfl, ⟨_, _, rfl, rfl, rfl⟩⟩ := h
 exact rfl
theorem ZN (w : World) (base : Nat) (ok : Nat → Prop) (x : iA)  : yX.M w base ok x [.int .i64 x.f0, .int .i64 x.f1, .string x.f2] := ⟨[.int .i64 x.f0], [.int .i64 x.f1, .string x.f2], rfl, rfl, ⟨[.int .i64 x.f1], [.string x.f2], rfl, rfl, rfl⟩⟩
noncomputable def l7 (xs : List iA) (i : Int) : iA := xs.getD i.toNat z109
theorem Ld {w : World} {A : Option Addr} {n : Nat} {xs : List iA} (h : Kd.C yX w A n xs) (i : Int) (h0 : 0 ≤ i) (h1 : i < n) : ∃ ad , A = some ad ∧ w.cell? (ad.add (i.toNat * 3)) = some (.int .i64 (l7 xs i).f0) ∧ w.cell? ⟨(ad.add (i.toNat * 3)).block, (ad.add (i.toNat * 3)).off + 1, none⟩ = some (.int .i64 (l7 xs i).f1) ∧ w.cell? ⟨(ad.add (i.toNat * 3)).block, (ad.add (i.toNat * 3)).off + 2, none⟩ = some (.string (l7 xs i).f2) := by
 obtain ⟨ad, c, e, _, hK, hc0⟩ := Kd.RB h z109 i h0 h1
 have hc : ∀ j u, c[j]? = some u → w.cell? (ad.add (i.toNat * 3 + j)) = some u := hc0
 obtain rfl := ZM hK
 exact ⟨ad, e, hc 0 _ rfl, by rw [← nL _ _ 1 (by omega)]; exact hc 1 _ rfl, by rw [← nL _ _ 2 (by omega)]; exact hc 2 _ rfl⟩
end Go.Proofs.YtgliaoanlhbepaaGreatDoor.Q
