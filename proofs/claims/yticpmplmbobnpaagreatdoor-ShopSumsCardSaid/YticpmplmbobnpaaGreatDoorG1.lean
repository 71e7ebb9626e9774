/- Contracts of functions that are taken as given in the walks: strings.Builder, sums, books; the test known() answers true. -/
import Derived.Test.YticpmplmbobnpaaGreatDoorS1
import Derived.Shelf.Strings.Builder1
import Derived.WalkKit
import Derived.KernelRfl
import Derived.Below
import Derived.Deep.Draws
import Derived.Deep.AppendLies
import Derived.Maps.AppendAt
import Derived.OwnWalk
import Derived.Laws.BytesArg
import Derived.Laws.MakeOwn
import Derived.Laws.OwnMore
import Derived.Deep.OwnRows
import Derived.Tactics
import Derived.Lib.ConvBytes
import Derived.Laws.Slices
import Derived.RowKit3
import Derived.Deep.LoopGhost
import Derived.Deep.QuietTactic
import Derived.BigQuiet
import Derived.WideLaws
import Derived.Deep.DeepCutAuto
import Derived.Deep.CutBlock
import Derived.Deep.RegionHeld3
import Derived.Laws.Rows
import Derived.Lib.AppendStr
import Derived.ArgAppend
import Derived.Laws.IdiomCopy
import Derived.OrdersHeld
import Derived.Laws.BitsLemmas
import Derived.RowKit
import Derived.Test.YticpmplmbobnpaaGreatDoorW1
import Derived.Lib.ItoaLen
import Derived.Lib.SmallJoins
section
namespace Go.Proofs.GreatGiven
open Go Go.RowKit
set_option linter.unusedVariables false
set_option linter.unusedSimpArgs false
theorem sizeBuilder : (Tryz.prog.info? 67).map (·.size) = some 2 := by kernel_rfl
theorem liesBuilder : liesAt Tryz.prog Tryz.prog.depth 67 (2 / Tryz.prog.cellsOf 67) 0 67 1 = true := by kernel_rfl
theorem infoByte : (Tryz.prog.info? 5).map (fun i => (i.zero, i.size, i.bytes)) = some (some (.int .u8 0), 1, 1) := by kernel_rfl
set_option maxHeartbeats 1000000 in
set_option maxRecDepth 100000 in
theorem copy_used (b : Nat) (w : World) (h0 : w.cell? ⟨b, 0, none⟩ = some (.pointer (some ⟨b, 0, none⟩))) :
    Calls Tryz.prog 49 #[.pointer (some ⟨b, 0, none⟩)] w fun e w' => e = .returned (.tuple #[]) ∧ w' = w := by
  obtain ⟨j, hj, _⟩ := Option.map_eq_some_iff.1 sizeBuilder
  have u65 := Tryz.underlying65
  have u67 := Tryz.underlying67
  have u89 := Tryz.underlying89
  have u4 := Tryz.underlying4
  go_enter Tryz.func49, Tryz.ntmps49
  go_wp2
  rw [Lib.run_neq_ptr_same w _ u65 hj]
  go_wp2
  go_end0
  exact ⟨rfl, rfl⟩
set_option maxHeartbeats 1000000 in
set_option maxRecDepth 100000 in
theorem copy_fresh (b : Nat) (w : World) (h0 : w.cell? ⟨b, 0, none⟩ = some (.pointer none)) (hsh : w.shape? b = some (67, 2)) (hfz : w.frozen? ⟨b, 0, none⟩ = false) :
    Calls Tryz.prog 49 #[.pointer (some ⟨b, 0, none⟩)] w fun e w' => e = .returned (.tuple #[]) ∧ w' = w.setCell ⟨b, 0, none⟩ (.pointer (some ⟨b, 0, none⟩)) := by
  obtain ⟨j, hj, hjs⟩ := Option.map_eq_some_iff.1 sizeBuilder
  have u65 := Tryz.underlying65
  have u67 := Tryz.underlying67
  have u89 := Tryz.underlying89
  have u4 := Tryz.underlying4
  go_enter Tryz.func49, Tryz.ntmps49
  go_wp2
  rw [Lib.run_to_unsafe w ⟨b, 0, none⟩ u65 u89 hj (by rw [hjs]; decide) hsh (Nat.zero_lt_succ 1)]
  simp only [Result.andThen]
  rw [Oper.upon_value]
  go_wp2
  rw [run_callFunc_extern Tryz.func66 (by kernel_rfl) (by kernel_rfl) (by kernel_rfl) (e := Extern.AbiNoEscape.same) (by kernel_rfl)]
  rw [Lib.run_noEscape]
  simp only [Result.andThen]
  rw [Oper.upon_value]
  go_wp2
  rw [Lib.run_from_unsafe w ⟨b, 0, none⟩ u89 u65 hj hsh liesBuilder]
  simp only [Result.andThen]
  rw [Oper.upon_value]
  go_wp2
  go_end0
  exact ⟨rfl, rfl⟩
theorem copyCheck (B b : Nat) (bs : List Value) (w : World) (h : Lib.IsBuilder 67 5 B b bs w) :
    Calls Tryz.prog 49 #[.pointer (some ⟨b, 0, none⟩)] w fun e w' => e = .returned (.tuple #[]) ∧ (Lib.BuilderAt 67 5 B b (.pointer (some ⟨b, 0, none⟩)) bs w' ∧ Below B w w') := by
  rcases h with h | h
  · refine (copy_fresh b w h.cell0 h.shape h.frozen0).mono ?_
    rintro e w' ⟨rfl, rfl⟩
    exact ⟨rfl, h.used _, (Below.refl B w).setCell (p := ⟨b, 0, none⟩) h.1 _⟩
  · refine (copy_used b w h.cell0).mono ?_
    rintro e w' ⟨rfl, rfl⟩
    exact ⟨rfl, h, Below.refl B _⟩
set_option maxHeartbeats 2000000 in
set_option maxRecDepth 100000 in
theorem writeString (B b : Nat) (bs : List Value) (s : ByteArray) (w : World) (h : Lib.IsBuilder 67 5 B b bs w) (hlen : bs.length + s.size ≤ 140737488355328) (hBw : B ≤ w.heap.size) :
    Calls Tryz.prog 38 #[.pointer (some ⟨b, 0, none⟩), .string s] w fun e w' => e = .returned (.tuple #[.int .i64 s.size, .nilIface]) ∧ (Lib.BuilderAt 67 5 B b (.pointer (some ⟨b, 0, none⟩)) (bs ++ Lib.strCells s) w' ∧ Below B w w') := by
  obtain ⟨i0, hi, hz0, hz1, hz2⟩ := info_parts infoByte
  have u65 := Tryz.underlying65
  have u67 := Tryz.underlying67
  have u89 := Tryz.underlying89
  have u43 := Tryz.underlying43
  have u3 := Tryz.underlying3
  have u5 := Tryz.underlying5
  have u9 := Tryz.underlying9
  have u4 := Tryz.underlying4
  go_enter Tryz.func38, Tryz.ntmps38
  go_wp2_with (go_at_call 49; refine (copyCheck B b bs _ h).mono ?_)
  rintro e w1 ⟨rfl, h1, hb1⟩
  obtain ⟨hB, v, hbk, hown, hne⟩ := h1
  have c0 : w1.cell? ⟨b, 0, none⟩ = some (.pointer (some ⟨b, 0, none⟩)) := by rw [Lib.cell_of_heap hbk]; rfl
  have c1 : w1.cell? ⟨b, 1, none⟩ = some v := by rw [Lib.cell_of_heap hbk]; rfl
  go_wp2_with (at_builtin; refine Lib.wpList_append_own_string _ rfl _ _ 43 9 rfl B 5 i0 u43 u9 hi hz0 hz1 hz2 _ _ _ rfl hown s rfl ?c3 ?c4 ?c5 ?_)
  case c3 => unfold maxLen; omega
  case c4 => omega
  case c5 => have := hb1.size; omega
  intro v' w2 hown' hgrow _
  have hlt : b < w1.heap.size := by
    rcases Nat.lt_or_ge b w1.heap.size with h' | h'
    · exact h'
    · simp [Array.getElem?_eq_none h'] at hbk
  have hb2 : w2.heap[b]? = some (.cells #[.pointer (some ⟨b, 0, none⟩), v] 67 (0, 0)) := by
    rw [hgrow.block b hlt (fun e => hne e.symm)]
    exact hbk
  have d0 : w2.cell? ⟨b, 0, none⟩ = some (.pointer (some ⟨b, 0, none⟩)) := by rw [Lib.cell_of_heap hb2]; rfl
  have d1 : w2.cell? ⟨b, 1, none⟩ = some v := by rw [Lib.cell_of_heap hb2]; rfl
  have f1 : w2.frozen? ⟨b, 1, none⟩ = false := Lib.frozen_of_heap hb2 1
  obtain ⟨ao, n', cap, rfl⟩ : ∃ ao n' cap, v' = .slice ao n' cap := by
    rcases hown'.2 with ⟨hv, _⟩ | ⟨g, cap, cur, hv, _⟩
    · exact ⟨_, _, _, hv⟩
    · exact ⟨_, _, _, hv⟩
  go_wp2
  go_ret2
  refine ⟨rfl, ?_, ?_⟩
  · exact Lib.BuilderAt.put (T := 67) (e := 5) hB hb2 (bs' := bs ++ Lib.strCells s) (by simpa [Lib.strCells_length] using hown') (by decide)
  · exact (hb1.grown hgrow (by have := hb1.size; omega) (fun k hk => (hown.lt k hk).1)).setCell (p := ⟨b, 1, none⟩) hB _
end Go.Proofs.GreatGiven
end
section
namespace Go.Proofs.GreatGiven
open Go Go.RowKit Go.Proofs.ZzShopW.PrintWords Go.Proofs.ZzShopW.PrintLast Go.Proofs.ZzShopW.PrintMore
set_option linter.unusedVariables false
set_option linter.unusedSimpArgs false
def isOrderB (s : ByteArray) : Bool := decide (1 ≤ s.size) && (decide (s.size ≤ 200) && !decide (0 ≤ Lib.indexByte s.data.toList 10))
set_option maxHeartbeats 2000000 in
set_option maxRecDepth 100000 in
theorem isOrder_calls (s : ByteArray) (w : World) : Calls Tryz.prog 22 #[.string s] w fun e w' => e = .returned (.bool (isOrderB s)) ∧ w' = w := by
  have u9 := Tryz.underlying9
  have u4 := Tryz.underlying4
  have u3 := Tryz.underlying3
  by_cases c1 : (s.size : Int) ≥ 1
  · have c1b : decide ((s.size : Int) ≥ 1) = true := decide_eq_true c1
    by_cases c2 : (s.size : Int) ≤ 200
    · have c2b : decide ((s.size : Int) ≤ 200) = true := decide_eq_true c2
      have hr : isOrderB s = !decide (0 ≤ Lib.indexByte s.data.toList 10) := by
        unfold isOrderB
        rw [decide_eq_true (by omega : 1 ≤ s.size), decide_eq_true (by omega : s.size ≤ 200), Bool.true_and, Bool.true_and]
      rw [hr]
      clear hr c1 c2
      go_enter Tryz.func22, Tryz.ntmps22
      go_wp2_with (go_at_call 37; refine (Tryz.strings_Contains_one s 10 _).mono ?_; rintro e w' ⟨rfl, rfl⟩)
      go_ret
      exact ⟨rfl, rfl⟩
    · have c2b : decide ((s.size : Int) ≤ 200) = false := decide_eq_false c2
      have hr : isOrderB s = false := by
        unfold isOrderB
        rw [decide_eq_false (by omega : ¬ s.size ≤ 200), Bool.false_and, Bool.and_false]
      rw [hr]
      clear hr c1 c2
      go_enter Tryz.func22, Tryz.ntmps22
      go_wp2
      go_ret
      exact ⟨rfl, rfl⟩
  · have c1b : decide ((s.size : Int) ≥ 1) = false := decide_eq_false c1
    have hr : isOrderB s = false := by
      unfold isOrderB
      rw [decide_eq_false (by omega : ¬ 1 ≤ s.size), Bool.false_and]
    rw [hr]
    clear hr c1
    go_enter Tryz.func22, Tryz.ntmps22
    go_wp2
    go_ret
    exact ⟨rfl, rfl⟩
set_option maxHeartbeats 2000000 in
set_option maxRecDepth 100000 in
theorem lit_calls (s : ByteArray) (w : World) : Calls Tryz.prog 21 #[.string s] w fun e w' => e = .returned (.bool (!isOrderB s)) ∧ w' = w := by
  have u9 := Tryz.underlying9
  have u4 := Tryz.underlying4
  go_enter Tryz.func21, Tryz.ntmps21
  go_wp2_with (go_at_call 22; refine (isOrder_calls s _).mono ?_; rintro e w' ⟨rfl, rfl⟩)
  go_ret
  exact ⟨rfl, rfl⟩
end Go.Proofs.GreatGiven
end
section
namespace Go.Proofs.GreatGiven
open Go Go.RowKit Go.Proofs.ZzShopW.PrintWords Go.Proofs.ZzShopW.PrintLast Go.Proofs.ZzShopW.PrintMore
set_option linter.unusedVariables false
set_option linter.unusedSimpArgs false
noncomputable def idxL : Nat → List ByteArray → Int → Option Int
  | 0, _, _ => none
  | k + 1, l, x => if x < (l.length : Int) then (if 0 ≤ x then (if isOrderB (rdOf ByteArray.empty l x) = true then idxL k l (wrap64 (x + 1)) else some x) else none) else some (-1)
set_option maxHeartbeats 8000000 in
set_option maxRecDepth 100000 in
theorem indexFunc_calls (k : Nat) (A0 : Option Addr) (c0 : Nat) (l0 : List ByteArray) (r : Int) (w : World) (hr0 : Kd.C Kd.string w A0 l0.length l0) (hc0 : l0.length ≤ c0) (h : idxL k l0 0 = some r) :
    Calls Tryz.prog 36 #[.slice A0 l0.length c0, .func (.func 21) #[] #[]] w fun e w' => e = .returned (.int .i64 r) ∧ w' = w := by
  have HR0 := Aside0.mk hr0
  have HC0 := Aside0.mk hc0
  clear hr0 hc0
  have hu22 := Tryz.underlying22
  have hu33 := Tryz.underlying33
  have hu9 := Tryz.underlying9
  have hu4 := Tryz.underlying4
  have hu3 := Tryz.underlying3
  have H' := Aside0.mk h
  clear h
  go_enter Tryz.func36, Tryz.ntmps36
  go_wp2
  go_loopg [8] k (fun kq v8 w' => ∃ (x : Int), v8 = .int .i64 x ∧ Aside0 (idxL kq l0 x = some r) ∧ Aside0 (kq ≤ k) ∧ w' = w)
  case atStart => exact ⟨0, (by first | rfl | (simp; done) | (simp [*]; done)), H', ⟨Nat.le_refl _⟩, rfl⟩
  case round =>
    clear H'
    try clear c2
    try clear p2
    obtain ⟨x, rfl, HA, HK1, rfl⟩ := hrel
    cases gk with
    | zero => exact absurd HA.out (by simp [idxL])
    | succ k1 =>
      have H := HA.out
      clear HA
      simp only [idxL] at H
      by_cases c3 : x < (l0.length : Int)
      · rw [if_pos c3] at H
        have c3b0 : decide (x < (l0.length : Int)) = true := decide_eq_true c3
        by_cases c4 : 0 ≤ x
        case neg => rw [if_neg c4] at H; cases H
        rw [if_pos c4] at H
        have c4b0 : decide (0 ≤ x) = true := decide_eq_true c4
        have p104 : 0 ≤ (x : Int) := c4
        have q104 : x < (l0.length : Int) := c3
        obtain ⟨ad104, e104, hx104_0⟩ := Kd.at_string HR0.out x p104 q104
        cases e104
        clear c3 c4
        replace p104 := eq_true p104
        replace q104 := eq_true q104
        by_cases c5 : isOrderB (rdOf ByteArray.empty l0 x) = true
        · rw [if_pos c5] at H
          have H' := Aside0.mk H
          clear H
          go_wp2_with (go_at_call 21; refine (lit_calls _ _).mono ?_; rintro e w' ⟨rfl, rfl⟩; simp only [c5, Bool.not_true])
          go_roundg k1
          case measure => have := HK1.out; omega
          case rel => exact ⟨wrap64 (x + 1), (by first | rfl | (simp; done) | (simp [*]; done)), H', ⟨by have := HK1.out; omega⟩, rfl⟩
        · rw [if_neg c5] at H
          obtain rfl := Option.some.inj H
          clear H
          have c5' := eq_false_of_ne_true c5
          clear c5
          go_wp2_with (go_at_call 21; refine (lit_calls _ _).mono ?_; rintro e w' ⟨rfl, rfl⟩; simp only [c5', Bool.not_false])
          go_ret
          exact ⟨rfl, rfl⟩
      · rw [if_neg c3] at H
        have c3b0 : decide (x < (l0.length : Int)) = false := decide_eq_false c3
        clear c3
        obtain rfl := Option.some.inj H
        clear H
        go_wp2
        go_ret
        exact ⟨rfl, rfl⟩
set_option maxHeartbeats 8000000 in
set_option maxRecDepth 100000 in
theorem containsFunc_calls (k : Nat) (A0 : Option Addr) (c0 : Nat) (l0 : List ByteArray) (r : Int) (w : World) (hr0 : Kd.C Kd.string w A0 l0.length l0) (hc0 : l0.length ≤ c0) (h : idxL k l0 0 = some r) :
    Calls Tryz.prog 20 #[.slice A0 l0.length c0, .func (.func 21) #[] #[]] w fun e w' => e = .returned (.bool (decide (r ≥ 0))) ∧ w' = w := by
  have HR0 := Aside0.mk hr0
  have HC0 := Aside0.mk hc0
  have H0 := Aside0.mk h
  clear hr0 hc0 h
  have hu22 := Tryz.underlying22
  have hu33 := Tryz.underlying33
  have hu9 := Tryz.underlying9
  have hu4 := Tryz.underlying4
  have hu3 := Tryz.underlying3
  go_enter Tryz.func20, Tryz.ntmps20
  go_wp2_with (go_at_call 36; refine (indexFunc_calls k A0 c0 l0 r _ HR0.out HC0.out H0.out).mono ?_; rintro e w' ⟨rfl, rfl⟩)
  go_ret
  exact ⟨rfl, rfl⟩
theorem idxL_ends (l : List ByteArray) (hl : l.length ≤ 1000000000000) : ∀ (d : Nat) (i : Nat), i + d = l.length → ∃ r, idxL (d + 1) l (i : Int) = some r ∧ (0 ≤ r ↔ ∃ s ∈ l.drop i, isOrderB s = false) ∧ (r < 0 → r = -1)
  | 0, i, h => by
    refine ⟨-1, ?_, ?_, fun _ => rfl⟩
    · simp only [idxL]
      rw [if_neg (by omega)]
    · have : l.drop i = [] := List.drop_eq_nil_of_le (by omega)
      simp [this]
  | d + 1, i, h => by
    have hi : i < l.length := by omega
    have hrd : rdOf ByteArray.empty l (i : Int) = l[i] := by
      simp [rdOf, List.getElem?_eq_getElem hi]
    have hd : l.drop i = l[i] :: l.drop (i + 1) := List.drop_eq_getElem_cons hi
    obtain ⟨r, h1, h2, h3⟩ := idxL_ends l hl d (i + 1) (by omega)
    have hw : wrap64 ((i : Int) + 1) = ((i + 1 : Nat) : Int) := by unfold wrap64; omega
    cases hb : isOrderB l[i] with
    | true =>
      refine ⟨r, ?_, ?_, h3⟩
      · rw [idxL, if_pos (by omega), if_pos (by omega), hrd, if_pos hb, hw]
        exact h1
      · rw [h2, hd]
        constructor
        · rintro ⟨s, hs, h⟩; exact ⟨s, .tail _ hs, h⟩
        · rintro ⟨s, hs, h⟩
          rcases List.mem_cons.1 hs with rfl | hs
          · rw [hb] at h; cases h
          · exact ⟨s, hs, h⟩
    | false =>
      refine ⟨i, ?_, ?_, fun h => by omega⟩
      · rw [idxL, if_pos (by omega), if_pos (by omega), hrd, if_neg (by simp [hb])]
      · rw [hd]
        exact ⟨fun _ => ⟨l[i], .head _, hb⟩, fun _ => by omega⟩
end Go.Proofs.GreatGiven
end
section
namespace Go.Proofs.GreatGiven
open Go Go.RowKit Go.Proofs.ZzShopW.PrintWords Go.Proofs.ZzShopW.PrintLast Go.Proofs.ZzShopW.PrintMore
set_option linter.unusedVariables false
set_option linter.unusedSimpArgs false
theorem getD_bt (s : ByteArray) (x : Int) (h : x.toNat < s.size) : ((s.data.toList.getD x.toNat 0).toNat : Int) = bt s x := by
  have hl : x.toNat < s.data.toList.length := by rw [Array.length_toList]; exact h
  rw [← bt_at s x h, List.getD_eq_getElem?_getD, List.getElem?_eq_getElem hl]
  rfl
theorem below_bytes (w : World) (e : TypeId) (s : ByteArray) : Below w.heap.size w (Lib.bytesWorld w e s) := bytes_below (Below.refl _ w) (Nat.le_refl _) e s
def sumStep (n b : Int) : Int := Int.tmod (wrap64 (wrap64 (wrap64 (n * 257) + b) + 1)) 1000003
def sumL : Nat → ByteArray → Int → Int → Option Int
  | 0, _, _, _ => none
  | k + 1, s, x, n => if x < (s.size : Int) then (if 0 ≤ x then sumL k s (wrap64 (x + 1)) (sumStep n (bt s x)) else none) else some n
def sumF (k : Nat) (n : Int) (s : ByteArray) : Option Int := if Int.tmod n 1000003 < 0 then sumL k s 0 (wrap64 (Int.tmod n 1000003 + 1000003)) else sumL k s 0 (Int.tmod n 1000003)
set_option maxHeartbeats 8000000 in
set_option maxRecDepth 100000 in
theorem sum_calls (k : Nat) (n : Int) (s : ByteArray) (r : Int) (w : World) (hs : s.size ≤ 9223372036854775807) (h : sumF k n s = some r) :
    Calls Tryz.prog 10 #[.int .i64 n, .string s] w fun e w' => e = .returned (.int .i64 r) ∧ Below w.heap.size w w' := by
  have kb := fun W => print_bytes (P := Tryz.prog) 9 43 5 Tryz.underlying9 Tryz.underlying43 Tryz.underlying5 s W
  have hcell := fun j hj => Lib.bytesWorld_cell w 5 s j hj
  have hu43 := Tryz.underlying43
  have hu9 := Tryz.underlying9
  have hu5 := Tryz.underlying5
  have hu4 := Tryz.underlying4
  have hu3 := Tryz.underlying3
  have HC := Aside0.mk hcell
  have HS := Aside0.mk hs
  clear hcell hs
  unfold sumF at h
  by_cases c1 : Int.tmod n 1000003 < 0
  · rw [if_pos c1] at h
    have c1b : decide (Int.tmod n 1000003 < 0) = true := decide_eq_true c1
    clear c1
    have H' := Aside0.mk h
    clear h
    go_enter Tryz.func10, Tryz.ntmps10
    go_wp2
    go_loopg [5, 17] k (fun kq v5 v17 w' => ∃ (m : Int) (x : Int), v5 = .int .i64 m ∧ v17 = .int .i64 x ∧ Aside0 (sumL kq s x m = some r) ∧ Aside0 (kq ≤ k) ∧ w' = Lib.bytesWorld w 5 s)
    case atStart => exact ⟨_, 0, rfl, (by first | rfl | (simp; done) | (simp [*]; done)), H', ⟨Nat.le_refl _⟩, rfl⟩
    case round =>
      clear H' c1b
      try clear c2
      try clear p2
      obtain ⟨m, x, rfl, rfl, HA, HK1, rfl⟩ := hrel
      cases gk with
      | zero => exact absurd HA.out (by simp [sumL])
      | succ k1 =>
        have H := HA.out
        clear HA
        simp only [sumL] at H
        by_cases c3 : x < (s.size : Int)
        · rw [if_pos c3] at H
          have c3b0 : decide (x < (s.size : Int)) = true := decide_eq_true c3
          by_cases c4 : 0 ≤ x
          case neg => rw [if_neg c4] at H; cases H
          rw [if_pos c4] at H
          have c4b0 : decide (0 ≤ x) = true := decide_eq_true c4
          have hx : (Lib.bytesWorld w 5 s).cell? ⟨w.heap.size, x.toNat, none⟩ = some (.int .u8 (bt s x)) := by
            have := HC.out x.toNat (by omega)
            rw [this, getD_bt s x (by omega)]
          have hb := bt_range s x
          have H' := Aside0.mk H
          clear H
          have p104 := eq_true c4
          have q104 := eq_true c3
          clear c3 c4
          go_wp2
          go_roundg k1
          case measure => have := HK1.out; omega
          case rel => exact ⟨sumStep m (bt s x), wrap64 (x + 1), by first | rfl | (simp [sumStep]; done), (by first | rfl | (simp; done) | (simp [*]; done)), H', ⟨by have := HK1.out; omega⟩, rfl⟩
        · rw [if_neg c3] at H
          have c3b0 : decide (x < (s.size : Int)) = false := decide_eq_false c3
          clear c3
          obtain rfl := Option.some.inj H
          clear H
          go_wp2
          go_ret
          exact ⟨rfl, below_bytes w 5 s⟩
  · rw [if_neg c1] at h
    have c1b : decide (Int.tmod n 1000003 < 0) = false := decide_eq_false c1
    clear c1
    have H' := Aside0.mk h
    clear h
    go_enter Tryz.func10, Tryz.ntmps10
    go_wp2
    go_loopg [5, 17] k (fun kq v5 v17 w' => ∃ (m : Int) (x : Int), v5 = .int .i64 m ∧ v17 = .int .i64 x ∧ Aside0 (sumL kq s x m = some r) ∧ Aside0 (kq ≤ k) ∧ w' = Lib.bytesWorld w 5 s)
    case atStart => exact ⟨_, 0, rfl, (by first | rfl | (simp; done) | (simp [*]; done)), H', ⟨Nat.le_refl _⟩, rfl⟩
    case round =>
      clear H' c1b
      try clear c2
      try clear p2
      obtain ⟨m, x, rfl, rfl, HA, HK1, rfl⟩ := hrel
      cases gk with
      | zero => exact absurd HA.out (by simp [sumL])
      | succ k1 =>
        have H := HA.out
        clear HA
        simp only [sumL] at H
        by_cases c3 : x < (s.size : Int)
        · rw [if_pos c3] at H
          have c3b0 : decide (x < (s.size : Int)) = true := decide_eq_true c3
          by_cases c4 : 0 ≤ x
          case neg => rw [if_neg c4] at H; cases H
          rw [if_pos c4] at H
          have c4b0 : decide (0 ≤ x) = true := decide_eq_true c4
          have hx : (Lib.bytesWorld w 5 s).cell? ⟨w.heap.size, x.toNat, none⟩ = some (.int .u8 (bt s x)) := by
            have := HC.out x.toNat (by omega)
            rw [this, getD_bt s x (by omega)]
          have hb := bt_range s x
          have H' := Aside0.mk H
          clear H
          have p104 := eq_true c4
          have q104 := eq_true c3
          clear c3 c4
          go_wp2
          go_roundg k1
          case measure => have := HK1.out; omega
          case rel => exact ⟨sumStep m (bt s x), wrap64 (x + 1), by first | rfl | (simp [sumStep]; done), (by first | rfl | (simp; done) | (simp [*]; done)), H', ⟨by have := HK1.out; omega⟩, rfl⟩
        · rw [if_neg c3] at H
          have c3b0 : decide (x < (s.size : Int)) = false := decide_eq_false c3
          clear c3
          obtain rfl := Option.some.inj H
          clear H
          go_wp2
          go_ret
          exact ⟨rfl, below_bytes w 5 s⟩
end Go.Proofs.GreatGiven
end
section
namespace Go.Proofs.GreatGiven
open Go Go.RowKit Go.Proofs.ZzShopW.PrintWords Go.Proofs.ZzShopW.PrintLast Go.Proofs.ZzShopW.PrintMore
set_option linter.unusedVariables false
set_option linter.unusedSimpArgs false
def sumB (m : Int) (l : List UInt8) : Int := l.foldl (fun m b => sumStep m b.toNat) m
def sum0 (n : Int) : Int := if Int.tmod n 1000003 < 0 then wrap64 (Int.tmod n 1000003 + 1000003) else Int.tmod n 1000003
def sumT (n : Int) (s : ByteArray) : Int := sumB (sum0 n) s.data.toList
theorem sumL_ends (s : ByteArray) (hs : s.size ≤ 1000000000000) : ∀ (d i : Nat) (m : Int), i + d = s.size → sumL (d + 1) s (i : Int) m = some (sumB m (s.data.toList.drop i))
  | 0, i, m, h => by
    have hl : s.data.toList.length = s.size := by rw [Array.length_toList]; rfl
    rw [sumL, if_neg (by omega), List.drop_eq_nil_of_le (by omega)]
    rfl
  | d + 1, i, m, h => by
    have hl : s.data.toList.length = s.size := by rw [Array.length_toList]; rfl
    have hi : i < s.data.toList.length := by omega
    have hw : wrap64 ((i : Int) + 1) = ((i + 1 : Nat) : Int) := by unfold wrap64; omega
    have hb : bt s (i : Int) = ((s.data.toList[i]).toNat : Int) := by
      rw [← getD_bt s i (by omega)]
      simp [List.getD_eq_getElem?_getD, List.getElem?_eq_getElem hi]
    rw [sumL, if_pos (by omega), if_pos (by omega), hw, hb, sumL_ends s hs d (i + 1) _ (by omega), List.drop_eq_getElem_cons hi]
    rfl
theorem sumF_ends (n : Int) (s : ByteArray) (hs : s.size ≤ 1000000000000) : sumF (s.size + 1) n s = some (sumT n s) := by
  unfold sumF sumT sum0
  have := fun m => sumL_ends s hs s.size 0 m (by omega)
  simp only [List.drop_zero, Int.ofNat_zero, Int.natCast_zero] at this
  split <;> exact this _
theorem sum_total (n : Int) (s : ByteArray) (hs : s.size ≤ 1000000000000) (w : World) :
    Calls Tryz.prog 10 #[.int .i64 n, .string s] w fun e w' => e = .returned (.int .i64 (sumT n s)) ∧ Below w.heap.size w w' :=
  sum_calls (s.size + 1) n s _ w (by omega) (sumF_ends n s hs)
theorem sumStep_range (m b : Int) (h0 : 0 ≤ m) (h1 : m < 1000003) (h2 : 0 ≤ b) (h3 : b < 256) : sumStep m b = (m * 257 + b + 1) % 1000003 := by
  have e1 : wrap64 (m * 257) = m * 257 := by unfold wrap64; omega
  have e2 : wrap64 (m * 257 + b) = m * 257 + b := by unfold wrap64; omega
  have e3 : wrap64 (m * 257 + b + 1) = m * 257 + b + 1 := by unfold wrap64; omega
  unfold sumStep
  rw [e1, e2, e3, Int.tmod_eq_emod_of_nonneg (by omega)]
theorem sumB_range : ∀ (l : List UInt8) (m : Int), 0 ≤ m → m < 1000003 → 0 ≤ sumB m l ∧ sumB m l < 1000003
  | [], m, h0, h1 => ⟨h0, h1⟩
  | b :: l, m, h0, h1 => by
    have hb := b.toNat_lt
    have := sumStep_range m b.toNat h0 h1 (by omega) (by omega)
    exact sumB_range l (sumStep m b.toNat) (by rw [this]; omega) (by rw [this]; omega)
theorem sum0_range (n : Int) : 0 ≤ sum0 n ∧ sum0 n < 1000003 := by
  have h1 : -1000003 < Int.tmod n 1000003 := by
    have := Int.lt_tmod_of_pos n (b := 1000003) (by omega)
    omega
  have h2 : Int.tmod n 1000003 < 1000003 := Int.tmod_lt_of_pos n (by omega)
  unfold sum0
  split
  · have : wrap64 (Int.tmod n 1000003 + 1000003) = Int.tmod n 1000003 + 1000003 := by unfold wrap64; omega
    rw [this]; omega
  · omega
theorem sumT_range (n : Int) (s : ByteArray) : 0 ≤ sumT n s ∧ sumT n s < 1000003 := sumB_range _ _ (sum0_range n).1 (sum0_range n).2
def lineT (m : Int) (s : ByteArray) : List UInt8 := Lib.itoa m ++ (32 :: (s.data.toList ++ [10]))
def bookGo : Int → List ByteArray → List UInt8
  | _, [] => []
  | m, s :: l => lineT (sumT m s) s ++ bookGo (sumT m s) l
def bookT (l : List ByteArray) : List UInt8 := bookGo 0 l
def bulkT : List ByteArray → Nat
  | [] => 0
  | s :: l => s.size + 30 + bulkT l
theorem itoa_len (n : Int) (h0 : 0 ≤ n) (h1 : n < 1000003) : (Lib.itoa n).length ≤ 21 := Lib.itoa_length_le n (by omega) (by omega)
theorem lineT_len (m : Int) (s : ByteArray) (h0 : 0 ≤ m) (h1 : m < 1000003) : (lineT m s).length ≤ s.size + 30 := by
  have := itoa_len m h0 h1
  have hl : s.data.toList.length = s.size := by rw [Array.length_toList]; rfl
  simp only [lineT, List.length_append, List.length_cons, List.length_nil]
  omega
theorem bookGo_len : ∀ (l : List ByteArray) (m : Int), (bookGo m l).length ≤ bulkT l
  | [], _ => Nat.le_refl _
  | s :: l, m => by
    have h := sumT_range m s
    have := lineT_len _ s h.1 h.2
    have := bookGo_len l (sumT m s)
    simp only [bookGo, bulkT, List.length_append]
    omega
theorem builder_below {B b : Nat} {bs : List Value} {w w' : World} (h : Lib.IsBuilder 67 5 B b bs w) (hb : Below w.heap.size w w') : Lib.IsBuilder 67 5 B b bs w' := by
  obtain ⟨_, _, _, hsz, hk⟩ := hb
  have lt : ∀ {g : Nat} {o : Obj}, w.heap[g]? = some o → g < w.heap.size := fun {g o} h => (Array.getElem?_eq_some_iff.1 h).1
  have key : ∀ p, Lib.BuilderAt 67 5 B b p bs w → Lib.BuilderAt 67 5 B b p bs w' := by
    rintro p ⟨hB, v, hbk, hown, hne⟩
    refine ⟨hB, v, by rw [hk b (lt hbk)]; exact hbk, ⟨hown.1, ?_⟩, hne⟩
    rcases hown.2 with h0 | ⟨g, cap, cur, h1, h2, h3, r⟩
    · exact .inl h0
    · exact .inr ⟨g, cap, cur, h1, h2, by rw [hk g (lt h3)]; exact h3, r⟩
  rcases h with h | h
  · exact .inl (key _ h)
  · exact .inr (key _ h)
theorem itoa_calls (n : Int) (h0 : -9223372036854775808 ≤ n) (h1 : n ≤ 9223372036854775807) (w : World) (HT : Lib.TabIs Tryz.prog w "internal/strconv.uint64pow10" .u64 Lib.pow10Tab) :
    Calls Tryz.prog 27 #[.int .i64 n] w fun e w' => e = .returned (.string ⟨(Lib.itoa n).toArray⟩) ∧ Below w.heap.size w w' := by
  refine (Tryz.strconv_Itoa n h0 h1 w HT).mono ?_
  rintro e w' ⟨rfl, k, os, rfl⟩
  refine ⟨rfl, ⟨rfl, rfl, rfl, ?_, fun i hi => ?_⟩⟩
  · show w.heap.size ≤ (w.heap ++ os).size
    simp
  · show (w.heap ++ os)[i]? = _
    rw [Array.getElem?_append, if_pos hi]
structure TabW (w : World) : Prop where
  p : Lib.TabIs Tryz.prog w "internal/strconv.uint64pow10" .u64 Lib.pow10Tab
  a : Lib.TabIs Tryz.prog w "strings.asciiSpace" .u8 Lib.asciiSpaceTab
theorem glob_p : Tryz.prog.globalNamed "internal/strconv.uint64pow10" = some 1 := by kernel_rfl
theorem glob_a : Tryz.prog.globalNamed "strings.asciiSpace" = some 9 := by kernel_rfl
theorem tabp_below {w w' : World} (h : Lib.TabIs Tryz.prog w "internal/strconv.uint64pow10" .u64 Lib.pow10Tab) (hb : Below w.heap.size w w') : Lib.TabIs Tryz.prog w' "internal/strconv.uint64pow10" .u64 Lib.pow10Tab :=
  Joins.tab_stays glob_p h hb (Nat.le_refl _)
theorem TabW.below {w w' : World} (h : TabW w) (hb : Below w.heap.size w w') : TabW w' :=
  ⟨Joins.tab_stays glob_p h.p hb (Nat.le_refl _), Joins.tab_stays glob_a h.a hb (Nat.le_refl _)⟩
end Go.Proofs.GreatGiven
end
section
namespace Go.Proofs.GreatGiven
open Go Go.RowKit Go.Proofs.ZzShopW.PrintWords Go.Proofs.ZzShopW.PrintLast Go.Proofs.ZzShopW.PrintMore
set_option linter.unusedVariables false
set_option linter.unusedSimpArgs false
theorem lineT_cells (m : Int) (s : ByteArray) : Lib.strCells (((⟨(Lib.itoa m).toArray⟩ ++ (⟨#[32]⟩ : ByteArray)) ++ s) ++ (⟨#[10]⟩ : ByteArray)) = Lib.byteCells (lineT m s) := by
  rw [Lib.strCells_eq]
  congr 1
  simp [lineT, ByteArray.data_append]
theorem bulk_len : ∀ l : List ByteArray, 30 * l.length ≤ bulkT l
  | [] => Nat.le_refl _
  | s :: l => by have := bulk_len l; simp only [bulkT, List.length_cons]; omega
theorem bulk_le (l : List ByteArray) : ∀ (i : Nat) (s : ByteArray), l[i]? = some s → s.size + 30 + bulkT (l.drop (i + 1)) ≤ bulkT (l.drop i) := by
  intro i s h
  have hi := (List.getElem?_eq_some_iff.1 h).1
  rw [List.drop_eq_getElem_cons hi]
  have : l[i] = s := (List.getElem?_eq_some_iff.1 h).2
  simp [bulkT, this]
set_option maxHeartbeats 8000000 in
set_option maxRecDepth 100000 in
theorem written_calls (A0 : Option Addr) (c0 : Nat) (l0 : List ByteArray) (w : World) (hr0 : Kd.C Kd.string w A0 l0.length l0) (hc0 : l0.length ≤ c0) (ht : Lib.TabIs Tryz.prog w "internal/strconv.uint64pow10" .u64 Lib.pow10Tab) (hbulk : bulkT l0 ≤ 1000000000000) :
    Calls Tryz.prog 23 #[.slice A0 l0.length c0] w fun e w' => e = .returned (.string ⟨(bookT l0).toArray⟩) ∧ Below w.heap.size w w' := by
  have HR0 := Aside0.mk hr0
  have HC0 := Aside0.mk hc0
  have HT := Aside0.mk ht
  have HK := Aside0.mk hbulk
  have HF := Aside0.mk (Lib.fresh_isBuilder 67 5 w)
  have HB0 := Aside0.mk ((Below.refl w.heap.size w).alloc (Nat.le_refl _) (.cells #[.pointer none, .slice none 0 0] 67))
  clear hr0 hc0 ht hbulk
  have hu22 := Tryz.underlying22
  have hu67 := Tryz.underlying67
  have hu65 := Tryz.underlying65
  have hu9 := Tryz.underlying9
  have hu4 := Tryz.underlying4
  have hu3 := Tryz.underlying3
  go_enter Tryz.func23, Tryz.ntmps23
  go_wp2
  go_loopg [4, 9] l0.length (fun kq v4 v9 w' => ∃ (m : Int) (i : Nat) (acc : List UInt8), v4 = .int .i64 m ∧ v9 = .int .i64 (i : Int) ∧ Aside0 (i + kq = l0.length) ∧ Aside0 (acc ++ bookGo m (l0.drop i) = bookT l0) ∧ Aside0 (Lib.IsBuilder 67 5 w.heap.size w.heap.size (Lib.byteCells acc) w') ∧ Aside0 (Below w.heap.size w w'))
  case atStart => exact ⟨0, 0, [], rfl, (by first | rfl | (simp; done)), ⟨by omega⟩, ⟨rfl⟩, HF, HB0⟩
  case round =>
    clear HF HB0
    try clear c2
    try clear p2
    obtain ⟨m, i, acc, rfl, rfl, HI, HA, HBu, HB⟩ := hrel
    by_cases c3 : (i : Int) < (l0.length : Int)
    · have c3b0 : decide ((i : Int) < (l0.length : Int)) = true := decide_eq_true c3
      obtain ⟨k1, rfl⟩ : ∃ k1, gk = k1 + 1 := ⟨gk - 1, by have := HI.out; omega⟩
      have hi : i < l0.length := by omega
      have p104 : (0 : Int) ≤ (i : Int) := by omega
      obtain ⟨ad104, e104, hx104_0⟩ := Kd.at_string HR0.out (i : Int) p104 c3
      cases e104
      replace hx104_0 := (HB.out.cell (World.block_lt_of_cell? w _ hx104_0)).trans hx104_0
      have hrd : rdOf ByteArray.empty l0 (i : Int) = l0[i] := by
        simp [rdOf, List.getElem?_eq_getElem hi]
      rw [hrd, Int.toNat_natCast] at hx104_0
      have hle := bulk_le l0 i l0[i] (List.getElem?_eq_getElem hi)
      have hbi : bulkT (l0.drop i) ≤ 1000000000000 := by
        have : ∀ (l : List ByteArray) (j : Nat), bulkT (l.drop j) ≤ bulkT l := by
          intro l
          induction l with
          | nil => intro j; simp
          | cons x l ih =>
            intro j
            cases j with
            | zero => exact Nat.le_refl _
            | succ j => have := ih j; simp only [List.drop_succ_cons, bulkT]; omega
        exact Nat.le_trans (this l0 i) HK.out
      have hd : l0.drop i = l0[i] :: l0.drop (i + 1) := List.drop_eq_getElem_cons hi
      have hA := HA.out
      rw [hd] at hA
      have hacc : acc.length ≤ 1000000000000 := by
        have h1 := bookGo_len l0 0
        have h2 : (acc ++ bookGo m (l0[i] :: l0.drop (i + 1))).length = (bookT l0).length := by rw [hA]
        simp only [List.length_append] at h2
        unfold bookT at h2
        have := HK.out
        omega
      generalize hs : l0[i] = s at hx104_0 hle hd hA
      have hss : s.size ≤ 1000000000000 := by omega
      have hr := sumT_range m s
      have hil := itoa_len (sumT m s) hr.1 hr.2
      obtain ⟨N, hN⟩ : ∃ N : ByteArray, N = ⟨(Lib.itoa (sumT m s)).toArray⟩ := ⟨_, rfl⟩
      have hNs : N.size ≤ 21 := by rw [hN]; exact hil
      have IT : ∀ w1, Lib.TabIs Tryz.prog w1 "internal/strconv.uint64pow10" .u64 Lib.pow10Tab → Calls Tryz.prog 27 #[.int .i64 (sumT m s)] w1 fun e w' => e = .returned (.string N) ∧ Below w1.heap.size w1 w' := by
        intro w1 h1
        rw [hN]
        exact itoa_calls _ (by omega) (by omega) w1 h1
      have z1 : N.size + 1 ≤ 9223372036854775807 := by omega
      have z1a := eq_true z1
      have z1b : decide (N.size + 1 ≤ 9223372036854775807) = true := decide_eq_true z1
      have z1c : (9223372036854775807 < N.size + 1) = False := eq_false (Nat.not_lt.2 z1)
      have z2 : N.size + 1 + s.size ≤ 9223372036854775807 := by omega
      have z2a := eq_true z2
      have z2b : decide (N.size + 1 + s.size ≤ 9223372036854775807) = true := decide_eq_true z2
      have z2c : (9223372036854775807 < N.size + 1 + s.size) = False := eq_false (Nat.not_lt.2 z2)
      have z3 : N.size + 1 + s.size + 1 ≤ 9223372036854775807 := by omega
      have z3a := eq_true z3
      have z3b : decide (N.size + 1 + s.size + 1 ≤ 9223372036854775807) = true := decide_eq_true z3
      have z3c : (9223372036854775807 < N.size + 1 + s.size + 1) = False := eq_false (Nat.not_lt.2 z3)
      have HZ := Aside0.mk (And.intro hacc (And.intro hss hNs))
      have HA' := Aside0.mk hA
      have HN := Aside0.mk hN
      have HIT := Aside0.mk IT
      have HD := Aside0.mk hd
      replace p104 := eq_true p104
      have q104 := eq_true c3
      clear c3 hrd hle hbi hd hA hacc hss hr hil hN hNs IT z1 z2 z3 HA hs hi
      go_wp2_with (go_at_call 10; refine (sum_total m s HZ.out.2.1 _).mono ?_)
      rintro e w1 ⟨rfl, hb1⟩
      have HB1 := Aside0.mk hb1
      clear hb1
      go_wp2_with (go_at_call 27; refine (HIT.out _ (tabp_below (tabp_below HT.out HB.out) HB1.out)).mono ?_)
      rintro e w2 ⟨rfl, hb2⟩
      have HB2 := Aside0.mk hb2
      clear hb2
      have hBu2 := builder_below (builder_below HBu.out HB1.out) HB2.out
      have HBu2 := Aside0.mk hBu2
      clear hBu2
      have hsz2 : w.heap.size ≤ w2.heap.size := by have h1 := HB.out.size; have h2 := HB1.out.size; have h3 := HB2.out.size; omega
      have HS2 := Aside0.mk hsz2
      clear hsz2
      go_wp2_with (go_at_call 38; refine (writeString w.heap.size w.heap.size (Lib.byteCells acc) _ _ HBu2.out ?len HS2.out).mono ?_)
      case len =>
        have := HZ.out
        simp only [Lib.byteCells_length, ByteArray.size_append]
        have e1 : (⟨#[32]⟩ : ByteArray).size = 1 := rfl
        have e2 : (⟨#[10]⟩ : ByteArray).size = 1 := rfl
        omega
      rintro e w3 ⟨rfl, hb3, hb4⟩
      have HB3 := Aside0.mk hb3
      have HB4 := Aside0.mk hb4
      clear hb3 hb4
      go_wp2
      go_roundg k1
      case measure => omega
      case rel =>
        refine ⟨sumT m s, i + 1, acc ++ lineT (sumT m s) s, rfl, ?_, ⟨by have := HI.out; omega⟩, ⟨?_⟩, ⟨?_⟩, ⟨?_⟩⟩
        · have : wrap64 ((i : Int) + 1) = ((i + 1 : Nat) : Int) := by have := HI.out; have := HK.out; have := bulk_len l0; unfold wrap64; omega
          rw [this]
        · rw [List.append_assoc]
          exact HA'.out
        · have := HB3.out
          rw [HN.out, lineT_cells, ← Lib.byteCells_append] at this
          exact .inr this
        · exact ((HB.out.trans (HB1.out.mono (by have h1 := HB.out.size; omega))).trans (HB2.out.mono (by have h1 := HB.out.size; have h2 := HB1.out.size; omega))).trans HB4.out
    · have c3b0 : decide ((i : Int) < (l0.length : Int)) = false := decide_eq_false c3
      have c3n0 : decide (i < l0.length) = false := decide_eq_false (by omega)
      have c3n1 : (i < l0.length) = False := eq_false (by omega)
      have hd : l0.drop i = [] := List.drop_eq_nil_of_le (by omega)
      have hA := HA.out
      rw [hd] at hA
      simp only [bookGo, List.append_nil] at hA
      subst hA
      clear c3 hd HA
      have hsz : w.heap.size ≤ wr.heap.size := HB.out.size
      have HS := Aside0.mk hsz
      clear hsz
      go_wp2_with (go_at_call 39; refine (Tryz.Builder_String_any w.heap.size w.heap.size _ _ HBu.out HS.out).mono ?_)
      rintro e w1 ⟨rfl, hb1⟩
      have HB1 := Aside0.mk hb1
      clear hb1
      go_wp2
      go_ret
      exact ⟨rfl, HB.out.trans HB1.out⟩
end Go.Proofs.GreatGiven
end
