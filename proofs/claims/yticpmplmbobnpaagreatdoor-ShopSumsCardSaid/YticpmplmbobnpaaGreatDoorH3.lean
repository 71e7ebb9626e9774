/- The contract over the first form's row, and the row's statement. -/
import Derived.Test.YticpmplmbobnpaaGreatDoorR3
import Derived.Test.YticpmplmbobnpaaGreatDoorF3
set_option linter.unusedSimpArgs false
namespace Go.Proofs.YticpmplmbobnpaaGreatDoor.shopSumsF
open Go.Proofs.YticpmplmbobnpaaGreatDoor.shop
open Go.ChangeShapes Go.WideShapes Go.ChangeAt Go.RowKit Go.Deep Go.Proofs.ZzShop.Q Go.Proofs.ZzShopW.PrintWords Go.Proofs.GreatGiven
open Go.ChangeMaps (open_string shut_string)
set_option linter.unusedVariables false
section
variable {H : Type} {enc : TypeId × Value → H} {w : World} {base : Nat} {spare : Nat → Bool} {held : Bool}
theorem weights_strs : ∀ (l : List ByteArray) (s : ByteArray), s ∈ l → s.size ∈ DataW.weightsAll Tryz.prog 9 (strs l : List (DataW H))
  | x :: l, s, h => by
    have e : (strs (x :: l) : List (DataW H)) = .lit (.string x.data.toList) :: strs l := rfl
    have hx : x.data.toList.length = x.size := by rw [Array.length_toList]; rfl
    rw [e]
    simp only [DataW.weightsAll, DataW.weights, hx]
    rcases List.mem_cons.1 h with rfl | h
    · exact .head _
    · exact .tail _ (weights_strs l s h)
theorem open_full {a : Option Addr} {len cap : Nat} {d : DataW H} {p : List MemPlace} (h : DataW.Trod enc Tryz.prog w base spare held 22 (.slice a len cap) d p) (hW : ∀ n ∈ d.weights Tryz.prog 22, n ≤ reachBytes) : ∃ l : List ByteArray, l.length = len ∧ Kd.C Kd.string w a l.length l ∧ l.length ≤ cap ∧ l.length ≤ 1000000000000000 ∧ ∀ s ∈ l, s.size ≤ 1000000000000000 := by
  obtain ⟨fuel, hf⟩ := h
  rcases open_strings Tryz.underlying22 Tryz.underlying9 cells9 hf with ⟨hcs, hx⟩ | ⟨x, ln, cp, ss, hcs, hb, hl, hm, hlen, hx, hi, hz⟩
  · simp [Value.cells] at hcs
    obtain ⟨rfl, rfl, rfl⟩ := hcs
    exact ⟨[], rfl, ⟨rfl, by simp, fun h => by simp at h⟩, Nat.zero_le _, Nat.zero_le _, fun s hs => by cases hs⟩
  · simp [Value.cells] at hcs
    obtain ⟨rfl, rfl, rfl⟩ := hcs
    have hle : len ≤ ss.length := by rw [hlen]; split <;> omega
    have hd : d = .slice (strs (ss.take len)) (strs (ss.drop len)) := congrArg Prod.fst hx
    have hll : (ss.take len).length = len := by rw [List.length_take]; omega
    refine ⟨ss.take len, hll, ⟨rfl, ?_, fun _ => ⟨x, rfl, fun j v hj => ?_⟩⟩, by omega, ?_, fun s hs => ?_⟩
    · have : maxLen ≤ 9223372036854775807 := by decide
      omega
    · have hj0 := (List.getElem?_eq_some_iff.1 hj).1
      have hjl : j < len := by omega
      have hv : ss.getD j ByteArray.empty = v := by
        rw [List.getElem?_take, if_pos hjl] at hj
        rw [List.getD_eq_getElem?_getD, hj]
        rfl
      have hc := hi j (by omega)
      rw [hv] at hc
      refine ⟨[.string v], rfl, ?_, fun i u hu => ?_⟩
      · first | rfl | simp [Kd.string, Kd.scalar] | (unfold Kd.string; rfl)
      · cases i with
        | succ i => simp at hu
        | zero =>
          simp at hu
          subst hu
          have e : x.add (j * Kd.string.sz + 0) = x.add j := by
            have : (Kd.string.sz : Nat) = 1 := rfl
            rw [this, Nat.mul_one, Nat.add_zero]
          rw [e]
          exact hc
    · have hr : reachBytes ≤ 1000000000000000 := by decide
      have hb16 : Tryz.prog.bytesOf 9 = 16 := by kernel_rfl
      have := hW (((strs (ss.take len) : List (DataW H)).length + (strs (ss.drop len) : List (DataW H)).length) * Tryz.prog.bytesOf 9) (by rw [hd]; simp only [DataW.weights, Tryz.underlying22]; exact .head _)
      rw [hb16] at this
      have h2 : (strs (ss.take len) : List (DataW H)).length = (ss.take len).length := by simp [strs]
      omega
    · have hr : reachBytes ≤ 1000000000000000 := by decide
      have := hW s.size (by rw [hd]; simp only [DataW.weights, Tryz.underlying22]; exact .tail _ (List.mem_append_left _ (weights_strs _ s hs)))
      omega
end
set_option maxRecDepth 100000 in
theorem contract (H : Type) (enc : TypeId × Value → H) (W : World) (base : Nat) (args : Array Value) (ds gs : List (DataW H)) (before : List MemPlace)
    (hval0 : ∀ (j : Nat) t v, Tryz.f3.params[j]? = some t → args[j]? = some v → Value.okWide Tryz.prog W .any base t v)
    (hW : DataW.Whole enc Tryz.prog Tryz.f3.params.toList Rows.shopSumsSpec.vars false W args.toList ds gs before) (hz : (DataW.weightsEach Tryz.prog (Tryz.f3.params.toList ++ (OpenSpec.ofChange Rows.shopSumsSpec).bare.plain.varTypes Tryz.prog) (ds ++ gs)).all (· ≤ reachBytes) = true) (hL : laidMetH Tryz.prog Rows.shopSumsRow.laid W) :
    Calls Tryz.prog 3 args W fun e W' => ∃ v, e = .returned v ∧ Rows.shopSumsSpec.post enc Tryz.prog Tryz.f3 false true false false W args v W' := by
  have hval : ∀ (j : Nat) t v, Tryz.f3.params[j]? = some t → args[j]? = some v → Value.okWide Tryz.prog W .any base t v := hval0
  have hW' := hW
  have HT := tables hL
  obtain ⟨p, q, hA0, hV, rfl, hfz, hnd⟩ := hW
  have hA : DataW.TrodAll enc Tryz.prog W 0 (fun _ => true) true Tryz.f3.params.toList args.toList ds p := hA0
  rw [Tryz.params3] at hA hval
  obtain ⟨v0, vs0, d0, ds0, p0, q0, hargs, rfl, rfl, h0, r0⟩ := trodAll_cons hA
  obtain ⟨v1, vs1, d1, ds1, p1, q1, rfl, rfl, rfl, h1, r1⟩ := trodAll_cons r0
  obtain ⟨v2, vs2, d2, ds2, p2, q2, rfl, rfl, rfl, h2, r2⟩ := trodAll_cons r1
  obtain ⟨rfl, rfl, rfl⟩ := trodAll_nil r2
  obtain rfl : args = #[v0, v1, v2] := by cases args; simp_all
  obtain ⟨rfl, rfl⟩ := trodVars_none hV
  obtain ⟨n0, rfl, rfl, rfl, y0⟩ := open_int Tryz.underlying3 (hval 0 3 v0 rfl rfl) h0
  obtain ⟨a1, rfl, rfl, rfl, y1⟩ := open_string Tryz.underlying9 (hval 1 9 v1 rfl rfl) h1
  obtain ⟨a2, len2, cap2, rfl⟩ := okWide_slice Tryz.underlying22 (hval 2 22 v2 rfl rfl)
  have k2 := h2
  have lt2 : ∀ x ∈ p2, x.block < W.heap.size := by obtain ⟨m, hm⟩ := k2; exact DataW.trod_lt m _ _ _ hm
  obtain ⟨l, hlen, hC, hcap, hbulk, hbulk2⟩ := open_full h2 (fun n hn => of_decide_eq_true (List.all_eq_true.1 hz n (by rw [Tryz.params3]; simp [DataW.weightsEach, hn])))
  obtain ⟨k, hkk⟩ := sums_true n0 a1 l hbulk hbulk2
  subst hlen
  clear hA0 hval0 hL
  refine (mandrellaw25_ShopSums.calls k n0 a1 a2 cap2 l true W hC hcap HT hkk).mono fun e W' ⟨he, bel⟩ => ?_
  subst he
  exact ⟨_, rfl, _, _, _, [], _, [], hW', trodAll_mk1 (shut_bool Tryz.underlying4 _), trodAll_cons_mk (shut_int Tryz.underlying3 y0) (trodAll_cons_mk (shut_string Tryz.underlying9 y1) (trodAll_cons_mk (Below.trod laidOut (by kernel_rfl) (of_decide_eq_true (by kernel_rfl)) k2 bel lt2) trodAll_mk0)), rfl, bel.frame _, fun h => by cases h⟩
set_option maxRecDepth 100000 in
theorem lifted (os : Os) (started : os.Started) (H : Type) (enc : TypeId × Value → H) (F : Stop.Interp) :
    ReturnsInHanded {} Tryz.checked os 3 .any ((OpenSpec.ofChange Rows.shopSumsSpec).preRow enc Tryz.prog Tryz.f3 Rows.shopSumsRow.domain false Rows.shopSumsRow.laid) (((OpenSpec.ofChange Rows.shopSumsSpec).at F).post enc Tryz.prog Tryz.f3 false true false false) := by
  obtain ⟨places, hx⟩ := shopSums.reads os enc
  refine returnsInHanded_of_row (C := Tryz.checked) (s := OpenSpec.ofChange Rows.shopSumsSpec) own started (by kernel_rfl) Tryz.func3
    (witness_row_atRef (enc := enc) (C := Tryz.checked) false (laidWorld os) #[.int .i64 0, .string ⟨#[]⟩, .slice none 0 0] (World.layVars_os _ _ _) (shopSums.w_vars os) (shopSums.w_rest os) (shopSums.w_ok os)
      (OpenSpec.preRow_of_cond 8 hx (by kernel_rfl) (fun k hk => by cases hk) (by kernel_rfl) (shopSums.laid_met os))) ?_
  intro W base args ds gs before hval hW _ _ hz hL _ _
  exact contract H enc W base args ds gs before hval hW hz hL
set_option maxRecDepth 100000 in
theorem said : Rows.ShopSumsSaid :=
  OpenClaim.holds_of_cond 3 Tryz.f3 rfl rfl rfl rfl rfl rfl rfl ⟨rfl, rfl, rfl, rfl, rfl⟩ rfl rfl rfl rfl rfl shopSums.named Tryz.func3 joined
    shopSums.inst (by unfold Func.isWrapper; first | (rw [if_pos (by decide +kernel)]; kernel_rfl) | (rw [if_neg (by decide +kernel)]; exact ⟨rfl, rfl⟩))
    (fun os started H enc _ F => by rw [OpenClaim.pre_eq_preRow]; exact lifted os started H enc F)
end Go.Proofs.YticpmplmbobnpaaGreatDoor.shopSumsF
