/- The row: the arguments opened, the contract, an input that fits. -/
import Derived.Test.YtgliaoanlhbepaaGreatDoorL1
import Derived.Test.YtgliaoanlhbepaaGreatDoorRows
import Derived.WalkKit
import Derived.ProofKit
import Derived.OpenShut
import Derived.ShutString
import Derived.Deep.Slices
import Derived.Deep.DeepHandedRow
import Derived.Deep.DeepWitnessRowRef
import Derived.Lib.LaidTab
import Derived.Lay
import Derived.LaidHandle
import Derived.LaidSub
import Derived.MakeChecks
import Derived.Stop.LaidErr
set_option linter.unusedSimpArgs false
namespace Go.Proofs.YtgliaoanlhbepaaGreatDoor.partKeys
open Go.ChangeShapes Go.WideShapes Go.ChangeAt Go.RowKit Go.Deep Go.Proofs.YtgliaoanlhbepaaGreatDoor.Q Go.Proofs.bT.eG Go.Proofs.fM
open Go.ChangeMaps (open_string shut_string)
set_option linter.unusedVariables false
theorem own : ownKnob Tryz.prog.godebug = none := by kernel_rfl
theorem laidOut : laidOutB Tryz.prog = true := by kernel_rfl
theorem cells3 : Tryz.prog.cellsOf 3 = 1 := by kernel_rfl
theorem NW : Tryz.prog.cellsOf 4 = 1 := by kernel_rfl
theorem Ue : Tryz.prog.cellsOf 9 = 1 := by kernel_rfl
theorem NY : Tryz.prog.cellsOf 29 = 5 := by kernel_rfl
theorem Uf : Tryz.prog.cellsOf 31 = 13 := by kernel_rfl
theorem five {α : Type} {l : List α} (h : l.length = 5) : ∃ c0 c1 c2 c3 c4, l = [c0, c1, c2, c3, c4] := by
 match l, h with
 | [c0, c1, c2, c3, c4], _ => exact ⟨_, _, _, _, _, rfl⟩
theorem thirteen {α : Type} {l : List α} (h : l.length = 13) : ∃ c0 c1 c2 c3 c4 c5 c6 c7 c8 c9 c10 c11 c12, l = [c0, c1, c2, c3, c4, c5, c6, c7, c8, c9, c10, c11, c12] := by
 match l, h with
 | [c0, c1, c2, c3, c4, c5, c6, c7, c8, c9, c10, c11, c12], _ => exact ⟨_, _, _, _, _, _, _, _, _, _, _, _, _, rfl⟩
noncomputable instance : Inhabited eP := ⟨z31⟩
section
variable {H : Type} {enc : TypeId × Value → H} {w : World} {base : Nat} {spare : Nat → Bool} {held : Bool}
theorem Ug {fuel : Nat} {cs : List Value} {x : DataW H × List MemPlace} (h : DataW.trod enc Tryz.prog w base spare held fuel 29 cs = some x) : ∃ s : wR, cs = [.int .i64 s.f0, .int .i64 s.f1, .string s.f2, .bool s.f3, .bool s.f4] := by
 obtain ⟨xs, n, _, _, hl, hlen, hf⟩ := DataW.trod_struct Tryz.underlying29 h
 rw [NY] at hl
 have hlen : xs.length = 5 := hlen
 obtain ⟨c0, c1, c2, c3, c4, rfl⟩ := five hl
 obtain ⟨y0, y1, y2, y3, y4, rfl⟩ := five hlen
 ·clear hl hlen h
  have h0 : DataW.trod enc Tryz.prog w base spare held n 3 [c0] = some y0 := by simpa [cells3] using hf 0 _ rfl
  have h1 : DataW.trod enc Tryz.prog w base spare held n 3 [c1] = some y1 := by simpa [cells3] using hf 1 _ rfl
  have h2 : DataW.trod enc Tryz.prog w base spare held n 9 [c2] = some y2 := by simpa [Ue] using hf 2 _ rfl
  have h3 : DataW.trod enc Tryz.prog w base spare held n 4 [c3] = some y3 := by simpa [NW] using hf 3 _ rfl
  have h4 : DataW.trod enc Tryz.prog w base spare held n 4 [c4] = some y4 := by simpa [NW] using hf 4 _ rfl
  obtain ⟨a0, e0, _⟩ := DataW.trod_int Tryz.underlying3 h0
  obtain ⟨a1, e1, _⟩ := DataW.trod_int Tryz.underlying3 h1
  obtain ⟨a2, e2, _⟩ := DataW.trod_string Tryz.underlying9 h2
  obtain ⟨a3, e3, _⟩ := DataW.trod_bool Tryz.underlying4 h3
  obtain ⟨a4, e4, _⟩ := DataW.trod_bool Tryz.underlying4 h4
  cases e0; cases e1; cases e2; cases e3; cases e4
  exact ⟨⟨a0, a1, a2, a3, a4⟩, rfl⟩
def cellsOfV (v : eP) : List Value := [.int .i64 v.f0.f0, .int .i64 v.f0.f1, .string v.f0.f2, .bool v.f0.f3, .bool v.f0.f4, .int .i64 v.f1, .bool v.f2, .string v.f3, .int .i64 v.f4.f0, .int .i64 v.f4.f1, .string v.f4.f2, .bool v.f4.f3, .bool v.f4.f4]
theorem afM {fuel : Nat} {cs : List Value} {x : DataW H × List MemPlace} (h : DataW.trod enc Tryz.prog w base spare held fuel 31 cs = some x) : ∃ v : eP, cs = cellsOfV v := by
 obtain ⟨xs, n, _, _, hl, hlen, hf⟩ := DataW.trod_struct Tryz.underlying31 h
 rw [Uf] at hl
 have hlen : xs.length = 5 := hlen
 obtain ⟨c0, c1, c2, c3, c4, c5, c6, c7, c8, c9, c10, c11, c12, rfl⟩ := thirteen hl
 obtain ⟨y0, y1, y2, y3, y4, rfl⟩ := five hlen
 ·clear hl hlen h
  have h0 : DataW.trod enc Tryz.prog w base spare held n 29 [c0, c1, c2, c3, c4] = some y0 := by simpa [NY] using hf 0 _ rfl
  have h1 : DataW.trod enc Tryz.prog w base spare held n 3 [c5] = some y1 := by simpa [cells3] using hf 1 _ rfl
  have h2 : DataW.trod enc Tryz.prog w base spare held n 4 [c6] = some y2 := by simpa [NW] using hf 2 _ rfl
  have h3 : DataW.trod enc Tryz.prog w base spare held n 9 [c7] = some y3 := by simpa [Ue] using hf 3 _ rfl
  have h4 : DataW.trod enc Tryz.prog w base spare held n 29 [c8, c9, c10, c11, c12] = some y4 := by simpa [NY] using hf 4 _ rfl
  obtain ⟨s0, e0⟩ := Ug h0
  obtain ⟨a1, e1, _⟩ := DataW.trod_int Tryz.underlying3 h1
  obtain ⟨a2, e2, _⟩ := DataW.trod_bool Tryz.underlying4 h2
  obtain ⟨a3, e3, _⟩ := DataW.trod_string Tryz.underlying9 h3
  obtain ⟨s4, e4⟩ := Ug h4
  cases e0; cases e1; cases e2; cases e3; cases e4
  exact ⟨⟨s0, a1, a2, a3, s4⟩, rfl⟩
theorem afN {H : Type} (d : DataW H) : 1 ≤ Rows.uptoBulk d := by
 cases d with
 | lit l => cases l <;> simp [Rows.uptoBulk]
 | nil => simp [Rows.uptoBulk]
 | ptr d => simp [Rows.uptoBulk]
 | slice elems spare => simp [Rows.uptoBulk]
 | agg parts => simp [Rows.uptoBulk]
 | iface t d => simp [Rows.uptoBulk]
 | map entries => simp [Rows.uptoBulk]
 | held h => simp [Rows.uptoBulk]
theorem afO {H : Type} (l : List (DataW H)) : l.length ≤ Rows.uptoBulkAll l := by
 induction l with
 | nil => simp [Rows.uptoBulkAll]
 | cons x r ih => have := afN x; simp only [Rows.uptoBulkAll, List.length_cons]; omega
theorem afP {a : Option Addr} {len cap : Nat} {d : DataW H} {p : List MemPlace} (h : DataW.Trod enc Tryz.prog w base spare held 22 (.slice a len cap) d p) : ∃ l : List eP, l.length = len ∧ Kd.C uw w a l.length l ∧ l.length ≤ cap ∧ l.length ≤ Rows.uptoBulk d := by
 obtain ⟨fuel, hf⟩ := h
 rcases open_slice Tryz.underlying22 hf with ⟨hcs, hx⟩ | ⟨x, ln, cp, m, n, D, Pl, hcs, hb, hl, hm, hmm, hx, hi⟩
 ·simp [Value.cells] at hcs
  obtain ⟨rfl, rfl, rfl⟩ := hcs
  exact ⟨[], rfl, ⟨rfl, by simp, fun h => by simp at h⟩, Nat.zero_le _, Nat.zero_le _⟩
 ·simp [Value.cells] at hcs
  obtain ⟨rfl, rfl, rfl⟩ := hcs
  have hle : len ≤ m := by rw [hmm]; split <;> omega
  obtain ⟨V, hV⟩ := choose_lt (n := len) (α := eP) (p := fun i v => ∀ (j : Nat) u, (cellsOfV v)[j]? = some u → w.cell? (x.add (i * 13 + j)) = some u) (fun i hil => by
   obtain ⟨cs', h1, h2⟩ := hi i (by omega)
   rw [Uf] at h1
   obtain ⟨v, rfl⟩ := afM h2
   obtain ⟨_, hcl, hat⟩ := World.cells?_some h1
   refine ⟨v, fun j u hu => ?_⟩
   have hj : j < 13 := by
    have := (List.getElem?_eq_some_iff.1 hu).1
    exact this
   rw [← Go.Deep.add_add, hat j hj, hu])
  refine ⟨(List.range len).map V, by simp, ⟨rfl, ?_, fun _ => ⟨x, rfl, fun j v hj => ?_⟩⟩, by simpa using hl, ?_⟩
  ·have : maxLen ≤ 9223372036854775807 := by decide
   simp only [List.length_map, List.length_range]; omega
  ·have hjl : j < len := by
    have := (List.getElem?_eq_some_iff.1 hj).1
    simpa using this
   obtain rfl : V j = v := by
    rw [List.getElem?_map, List.getElem?_range hjl] at hj
    exact Option.some.inj hj
   exact ⟨cellsOfV (V j), rfl, ZL w (V j), fun i u hu => hV j hjl i u hu⟩
  ·have : d = .slice ((List.range len).map D) ((List.range (m - len)).map fun j => D (len + j)) := congrArg Prod.fst hx
   subst this
   have := afO ((List.range len).map D)
   simp only [List.length_map, List.length_range] at this ⊢
   simp only [Rows.uptoBulk]
   omega
end
theorem afQ : (Rows.laid_internal_strconv_uint64pow10 : DataW Unit) = Lib.tabData .u64 Lib.pow10Tab := by kernel_rfl
theorem afR : (Rows.laid_strings_asciiSpace : DataW Unit) = Lib.tabData .u8 Lib.asciiSpaceTab := by kernel_rfl
theorem two : (Rows.partKeysUptoRow.laid.filter fun x => x.1 == "internal/strconv.uint64pow10" || x.1 == "strings.asciiSpace") = [("internal/strconv.uint64pow10", Rows.laid_internal_strconv_uint64pow10), ("strings.asciiSpace", Rows.laid_strings_asciiSpace)] := by kernel_rfl
theorem afS : (Tryz.prog.globals[3]?).map (·.type) = some 368 := by kernel_rfl
theorem afT : (Tryz.prog.globals[2]?).map (·.type) = some 361 := by kernel_rfl
theorem cells5 : Tryz.prog.cellsOf 5 = 1 := by kernel_rfl
theorem afU : Tryz.prog.cellsOf 235 = 1 := by kernel_rfl
theorem afV : Tryz.prog.cellsOf 361 = 256 := by kernel_rfl
theorem afW : Tryz.prog.cellsOf 368 = 20 := by kernel_rfl
theorem tables {W : World} (h : laidMetH Tryz.prog Rows.partKeysUptoRow.laid W) : jv W := by
 have h1 := laidMetH.filter (fun x => x.1 == "internal/strconv.uint64pow10" || x.1 == "strings.asciiSpace") h
 rw [two, afQ, afR] at h1
 rw [MakeChecks.laidMetH_plain _ _ _ (by kernel_rfl)] at h1
 exact ⟨Lib.tabIs_of_head QY afS Tryz.underlying368 Tryz.underlying235 afU afW h1, Lib.tabIs_of_head K5 afT Tryz.underlying361 Tryz.underlying5 cells5 afV h1.tail⟩
end Go.Proofs.YtgliaoanlhbepaaGreatDoor.partKeys
