/- The rows: the arguments opened, the contract, an input that fits. -/
import Derived.Test.YticpmplmbobnpaaGreatDoorL1
import Derived.Test.YticpmplmbobnpaaGreatDoorRows
import Derived.WalkKit
import Derived.ProofKit
import Derived.OpenShut
import Derived.ShutString
import Derived.SliceStrings
import Derived.Deep.Slices
import Derived.Deep.DeepHandedRow
import Derived.Deep.DeepWitnessRowRef
import Derived.Lib.LaidTab
import Derived.Lay
import Derived.LaidHandle
import Derived.LaidSub
import Derived.MakeChecks
import Derived.Stop.LaidErr
set_option linter.unusedSimpArgs false
namespace Go.Proofs.YticpmplmbobnpaaGreatDoor.shop
open Go.ChangeShapes Go.WideShapes Go.ChangeAt Go.RowKit Go.Deep Go.Proofs.ZzShop.Q Go.Proofs.ZzShopW.PrintWords Go.Proofs.GreatGiven
open Go.ChangeMaps (open_string shut_string)
set_option linter.unusedVariables false
theorem own : ownKnob Tryz.prog.godebug = none := by kernel_rfl
theorem laidOut : laidOutB Tryz.prog = true := by kernel_rfl
theorem cells9 : Tryz.prog.cellsOf 9 = 1 := by kernel_rfl
section
variable {H : Type} {enc : TypeId × Value → H} {w : World} {base : Nat} {spare : Nat → Bool} {held : Bool}
theorem bulk_strs (l : List ByteArray) : ∀ s ∈ l, s.size ≤ Rows.uptoBulkAll (strs l : List (DataW H)) := by
  induction l with
  | nil => intro s hs; cases hs
  | cons x l ih =>
    intro s hs
    have e : (strs (x :: l) : List (DataW H)) = .lit (.string x.data.toList) :: strs l := rfl
    have hx : x.data.toList.length = x.size := by rw [Array.length_toList]; rfl
    rw [e]
    simp only [Rows.uptoBulkAll, Rows.uptoBulk]
    rcases List.mem_cons.1 hs with rfl | hs
    · omega
    · have := ih s hs; omega
theorem len_strs (l : List ByteArray) : l.length ≤ Rows.uptoBulkAll (strs l : List (DataW H)) := by
  induction l with
  | nil => exact Nat.zero_le _
  | cons x l ih =>
    have e : (strs (x :: l) : List (DataW H)) = .lit (.string x.data.toList) :: strs l := rfl
    rw [e]
    simp only [Rows.uptoBulkAll, Rows.uptoBulk, List.length_cons]
    omega
theorem open_texts {a : Option Addr} {len cap : Nat} {d : DataW H} {p : List MemPlace} (h : DataW.Trod enc Tryz.prog w base spare held 22 (.slice a len cap) d p) : ∃ l : List ByteArray, l.length = len ∧ Kd.C Kd.string w a l.length l ∧ l.length ≤ cap ∧ l.length ≤ Rows.uptoBulk d ∧ ∀ s ∈ l, s.size ≤ Rows.uptoBulk d := by
  obtain ⟨fuel, hf⟩ := h
  rcases open_strings Tryz.underlying22 Tryz.underlying9 cells9 hf with ⟨hcs, hx⟩ | ⟨x, ln, cp, ss, hcs, hb, hl, hm, hlen, hx, hi, _⟩
  · simp [Value.cells] at hcs
    obtain ⟨rfl, rfl, rfl⟩ := hcs
    exact ⟨[], rfl, ⟨rfl, by simp, fun h => by simp at h⟩, Nat.zero_le _, Nat.zero_le _, fun s hs => by cases hs⟩
  · simp [Value.cells] at hcs
    obtain ⟨rfl, rfl, rfl⟩ := hcs
    have hle : len ≤ ss.length := by rw [hlen]; split <;> omega
    have hd : d = .slice (strs (ss.take len)) (strs (ss.drop len)) := congrArg Prod.fst hx
    have hll : (ss.take len).length = len := by rw [List.length_take]; omega
    refine ⟨ss.take len, hll, ⟨rfl, ?_, fun _ => ⟨x, rfl, fun j v hj => ?_⟩⟩, by omega, ?_, fun s hs => ?_⟩
    · have : maxLen ≤ 9223372036854775807 := by decide
      omega
    · have hj0 := (List.getElem?_eq_some_iff.1 hj).1
      have hjl : j < len := by omega
      have hv : ss.getD j ByteArray.empty = v := by
        rw [List.getElem?_take, if_pos hjl] at hj
        rw [List.getD_eq_getElem?_getD, hj]
        rfl
      have hc := hi j (by omega)
      rw [hv] at hc
      refine ⟨[.string v], rfl, ?_, fun i u hu => ?_⟩
      · first | rfl | simp [Kd.string, Kd.scalar] | (unfold Kd.string; rfl)
      · cases i with
        | succ i => simp at hu
        | zero =>
          simp at hu
          subst hu
          have e : x.add (j * Kd.string.sz + 0) = x.add j := by
            have : (Kd.string.sz : Nat) = 1 := rfl
            rw [this, Nat.mul_one, Nat.add_zero]
          rw [e]
          exact hc
    · have := len_strs (H := H) (ss.take len)
      subst hd
      simp only [Rows.uptoBulk]
      omega
    · have := bulk_strs (H := H) (ss.take len) s hs
      subst hd
      simp only [Rows.uptoBulk]
      omega
end
theorem pow_data : (Rows.laid_internal_strconv_uint64pow10 : DataW Unit) = Lib.tabData .u64 Lib.pow10Tab := by kernel_rfl
theorem asc_data : (Rows.laid_strings_asciiSpace : DataW Unit) = Lib.tabData .u8 Lib.asciiSpaceTab := by kernel_rfl
theorem ty_p : (Tryz.prog.globals[1]?).map (·.type) = some 141 := by kernel_rfl
theorem ty_a : (Tryz.prog.globals[9]?).map (·.type) = some 450 := by kernel_rfl
theorem cells5 : Tryz.prog.cellsOf 5 = 1 := by kernel_rfl
theorem cells118 : Tryz.prog.cellsOf 118 = 1 := by kernel_rfl
theorem cells450 : Tryz.prog.cellsOf 450 = 256 := by kernel_rfl
theorem cells141 : Tryz.prog.cellsOf 141 = 20 := by kernel_rfl
theorem two : ((Rows.shopSumsUptoRow.laid.filter fun x => x.1 == "internal/strconv.uint64pow10" || x.1 == "strings.asciiSpace") : List (String × DataW Unit)) = [("internal/strconv.uint64pow10", Rows.laid_internal_strconv_uint64pow10), ("strings.asciiSpace", Rows.laid_strings_asciiSpace)] := by kernel_rfl
theorem tables {W : World} (h : laidMetH Tryz.prog Rows.shopSumsUptoRow.laid W) : TabW W := by
  have h1 := laidMetH.filter (fun x => x.1 == "internal/strconv.uint64pow10" || x.1 == "strings.asciiSpace") h
  rw [two, pow_data, asc_data] at h1
  rw [MakeChecks.laidMetH_plain _ _ _ (by kernel_rfl)] at h1
  exact ⟨Lib.tabIs_of_head glob_p ty_p Tryz.underlying141 Tryz.underlying118 cells118 cells141 h1, Lib.tabIs_of_head glob_a ty_a Tryz.underlying450 Tryz.underlying5 cells5 cells450 h1.tail⟩
noncomputable def handleWorld (os : Os) : World :=
  { World.holding Tryz.prog os ⟨#[], #[], []⟩ with heap := (World.holding Tryz.prog os ⟨#[], #[], []⟩).heap.modify 4 fun
      | .cells _ t frozen => .cells #[.iface 362 (.agg #[.pointer (some ⟨12, 69, none⟩)])] t frozen
      | o => o }
noncomputable def dataL : List (String × DataW Unit) := Rows.shopSumsUptoRow.laid.filter fun x => x.2.handleName?.isNone
noncomputable def laidWorld (os : Os) : World := (handleWorld os).layVars Tryz.prog dataL
theorem laid_fits (os : Os) : (handleWorld os).layFits Tryz.prog dataL [] = true := by kernel_rfl
theorem laid_ifaces (os : Os) : (handleWorld os).layIfaces Tryz.prog dataL (laidWorld os) = true := by kernel_rfl
theorem laid_data (os : Os) (args : Array Value) : laidMet Tryz.prog dataL ((laidWorld os).forCall (fun _ _ => 0) ⟨#[], args, []⟩).memory := by
  have e1 : (dataL.filter fun x => (dataL.map (·.1)).contains x.1) = dataL := List.filter_eq_self.2 fun x hx => List.contains_iff_mem.2 (List.mem_map.2 ⟨x, hx, rfl⟩)
  have e2 : (dataL.filter fun x => !(dataL.map (·.1)).contains x.1) = [] := List.filter_eq_nil_iff.2 fun x hx => by rw [List.contains_iff_mem.2 (List.mem_map.2 ⟨x, hx, rfl⟩)]; simp
  have h : laidMet Tryz.prog dataL (laidWorld os) := laidMet_layVars (w0 := handleWorld os) (dataL.map (·.1)) [] (by rw [e1]; rfl) (by rw [e1]; exact laid_fits os) (by rw [e1]; exact laid_ifaces os) (by rw [e2]; exact LaidIn.none)
  exact h.of_heap (by simp [World.memory, World.forCall, Input.heap])
end Go.Proofs.YticpmplmbobnpaaGreatDoor.shop
