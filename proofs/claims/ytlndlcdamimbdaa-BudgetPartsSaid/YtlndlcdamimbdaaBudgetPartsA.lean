/- The walk of the law BudgetParts, whatever came in. -/
import Derived.Test.YtlndlcdamimbdaaBudgetParts
import Derived.Deep.Slices
namespace Go.Proofs.Ytlndlcdamimbdaa
open Go.ChangeShapes Go.WideShapes Go.ChangeAt Go.RowKit

set_option maxRecDepth 100000 in
set_option maxHeartbeats 800000 in
theorem parts_no (n m : Int) (v : Value) (w : World) (hn : mayB n = false) : Calls Try.prog 6 #[.int .i64 n, .int .i64 m, v] w fun e w' => e = .returned (.bool true) ∧ Below w.heap.size w w' := by
  have HN := Lib.hid hn
  clear hn
  go_enter Try.func6, Try.ntmps6
  go_wp2_with fail
  refine (new_no n w HN.out).mono ?_
  rintro e w1 ⟨rfl, rfl⟩
  go_wp2_with fail
  refine (live26_any w1).mono ?_
  rintro e w3 ⟨rfl, hb⟩
  have HB := Lib.hid hb
  clear hb
  go_wp2
  go_ret
  exact ⟨rfl, HB.out⟩
set_option maxRecDepth 100000 in
set_option maxHeartbeats 800000 in
theorem parts_half (n m : Int) (v : Value) (w : World) (hn : mayB n = true) (hm : mayB m = false) : Calls Try.prog 6 #[.int .i64 n, .int .i64 m, v] w fun e w' => e = .returned (.bool true) ∧ Below w.heap.size w w' := by
  have HN := Lib.hid hn
  have HM := Lib.hid hm
  clear hn hm
  go_enter Try.func6, Try.ntmps6
  go_wp2_with fail
  refine (new_yes n w HN.out).mono ?_
  rintro e w1 ⟨rfl, h1, b1⟩
  have B1 := Lib.hid b1
  clear h1 b1
  go_wp2_with fail
  refine (part_no w.heap.size m w1 HM.out).mono ?_
  rintro e w2 ⟨rfl, rfl⟩
  go_wp2_with fail
  refine (refMay_any m w2).mono ?_
  rintro e w3 ⟨rfl, rfl⟩
  rw [HM.out]
  go_wp2_with fail
  refine (live26_any w3).mono ?_
  rintro e w4 ⟨rfl, hb⟩
  have HB := Lib.hid (below_step B1.out hb)
  clear hb
  go_wp2
  go_ret
  exact ⟨rfl, HB.out⟩
theorem budgetParts_walk (n m : Int) (A : Option Addr) (c : Nat) (l : List Bool) (w : World) (hr : BRow w A l) : Calls Try.prog 6 #[.int .i64 n, .int .i64 m, .slice A l.length c] w fun e w' => e = .returned (.bool true) ∧ Below w.heap.size w w' := by
  cases hn : mayB n with
  | false => exact parts_no n m _ w hn
  | true =>
    cases hm : mayB m with
    | false => exact parts_half n m _ w hn hm
    | true => exact parts_main n m A c l w hn hm hr
/-- A slice of yes and no that came in. -/
theorem open46 {H : Type} {enc : TypeId × Value → H} {w : World} {base : Nat} {sp : Nat → Bool} {held : Bool} {r : Reach} {b0 : Nat} {v : Value} {d : DataW H} {ps : List MemPlace} (hval : Value.okWide Try.prog w r b0 46 v) (hd : DataW.Trod enc Try.prog w base sp held 46 v d ps)
    {ts : List TypeId} {ds : List (DataW H)} {j : Nat} (_hsz : (DataW.weightsEach Try.prog ts ds).all (· ≤ reachBytes) = true) (_ht : ts[j]? = some 46) (_hdj : ds[j]? = some d) :
    ∃ (A : Option Addr) (cap : Nat) (l : List Bool), v = .slice A l.length cap ∧ BRow w A l := by
  obtain ⟨a, len, cap, rfl⟩ := okWide_slice Try.underlying46 hval
  obtain ⟨fuel, hf⟩ := hd
  have hc4 : Try.prog.cellsOf 4 = 1 := by kernel_rfl
  have hb4 : Try.prog.bytesOf 4 = 1 := by kernel_rfl
  rcases Go.Deep.open_slice Try.underlying46 hf with ⟨hcs, _⟩ | ⟨x, len', cap', m, n, D, Pl, hcs, hb, hl, hm, hmm, hx, hi⟩
  · simp [Value.cells] at hcs
    obtain ⟨rfl, rfl, rfl⟩ := hcs
    exact ⟨none, 0, [], rfl, ⟨by simp, fun i h => absurd h (Nat.not_lt_zero i)⟩⟩
  · simp [Value.cells] at hcs
    obtain ⟨rfl, rfl, rfl⟩ := hcs
    have hlm : len ≤ m := by rw [hmm]; split <;> omega
    have each : ∀ i, ∃ q : Bool, i < len → w.cell? (x.add i) = some (.bool q) := by
      intro i
      by_cases h : i < len
      · obtain ⟨cs', hcs', htr⟩ := hi i (by omega)
        rw [hc4] at hcs'
        have hcl : cs'.length = 1 := (World.cells?_some hcs').2.1
        match cs', hcl with
        | [c0], _ =>
          obtain ⟨x0, e0, _⟩ := DataW.trod_bool Try.underlying4 htr
          have c1 := (World.cells?_some hcs').2.2 0 (by omega)
          simp at e0
          subst e0
          refine ⟨x0, fun _ => ?_⟩
          rw [show x.add i = (x.add (i * 1)).add 0 from by simp [Addr.add], c1]; rfl
      · exact ⟨true, fun h' => absurd h' h⟩
    obtain ⟨f, hf⟩ := Classical.axiomOfChoice each
    refine ⟨some x, cap, (List.range len).map f, by simp, ⟨?_, fun i h => ⟨x, rfl, ?_⟩⟩⟩
    · simp; unfold maxLen at hm; omega
    · have h' : i < len := by simpa using h
      have := hf i h'
      simp only [List.getElem_map, List.getElem_range]
      exact this
end Go.Proofs.Ytlndlcdamimbdaa
