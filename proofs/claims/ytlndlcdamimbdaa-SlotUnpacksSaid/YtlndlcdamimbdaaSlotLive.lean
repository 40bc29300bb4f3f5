/- The walk of the slots' live. -/
import Derived.Test.YtlndlcdamimbdaaSlotOf
import Derived.Test.YtlndlcdamimbdaaPack
namespace Go.Proofs.Ytlndlcdamimbdaa
open Go.RowKit

theorem ofS_live : ofS 0 7 (-3) 3 4 9 1 = ⟨0, 7, 1, 4, 9, 1⟩ := by simp [ofS, mayS, kindF]

set_option maxHeartbeats 1600000 in
theorem live22_any (w : World) : Calls Try.prog 24 #[] w fun e w' => e = .returned (.bool true) ∧ Below w.heap.size w w' := by
  have HOf : Hid (∀ w : World, Calls Try.prog 22 #[.agg #[.int .u64 0, .int .u64 7], .int .i64 (-3), .int .i64 3, .int .i64 4, .int .i64 9, .int .i64 1] w fun e w' => e = .returned (.agg #[.int .u64 0, .int .u64 7, .int .i64 1, .int .i64 4, .int .i64 9, .int .i64 1]) ∧ Below w.heap.size w w') := fun w => by
    have := of_any 0 7 (-3) 3 4 9 1 w
    rw [ofS_live] at this
    exact this
  have HWin : Hid (∀ w : World, Calls Try.prog 27 #[.agg #[.int .u64 0, .int .u64 7, .int .i64 1, .int .i64 4, .int .i64 9, .int .i64 1], .int .i64 0, .int .i64 9] w fun e w' => e = .returned (.tuple #[.int .i64 4, .int .i64 9]) ∧ Below w.heap.size w w') := fun w => window_any ⟨0, 7, 1, 4, 9, 1⟩ 0 9 w
  have HS5 : Hid (∀ w : World, Calls Try.prog 26 #[.agg #[.int .u64 0, .int .u64 7, .int .i64 1, .int .i64 4, .int .i64 9, .int .i64 1], .int .i64 5] w fun e w' => e = .returned (.bool true) ∧ Below w.heap.size w w') := fun w => says_any ⟨0, 7, 1, 4, 9, 1⟩ 5 w
  have HS3 : Hid (∀ w : World, Calls Try.prog 26 #[.agg #[.int .u64 0, .int .u64 7, .int .i64 1, .int .i64 4, .int .i64 9, .int .i64 1], .int .i64 3] w fun e w' => e = .returned (.bool false) ∧ Below w.heap.size w w') := fun w => says_any ⟨0, 7, 1, 4, 9, 1⟩ 3 w
  have HP : Hid (∀ w : World, Calls Try.prog 49 #[.agg #[.int .u64 0, .int .u64 7, .int .i64 1, .int .i64 4, .int .i64 9, .int .i64 1]] w fun e w' => ∃ g cp, w.heap.size ≤ g ∧ e = .returned (.slice (some ⟨g, 0, none⟩) 16 cp) ∧ Below w.heap.size w w') := fun w => (pack_yes 0 7 1 4 9 1 w (by decide) (by decide) (by simp [mayS])).mono fun e w' h => by
    obtain ⟨g, cp, h1, h2, _, h4⟩ := h
    exact ⟨g, cp, h1, h2, h4⟩
  go_enter Try.func24, Try.ntmps24
  go_wp2_with fail
  refine (HOf.out _).mono ?_
  rintro e w1 ⟨rfl, hb1⟩
  have HB1 := Lib.hid (hb1.alloc hb1.size (.cells #[.int .u64 0, .int .u64 7, .int .i64 1, .int .i64 4, .int .i64 9, .int .i64 1] 38))
  have HK1 := Lib.hid (Blk.new w1 38 #[.int .u64 0, .int .u64 7, .int .i64 1, .int .i64 4, .int .i64 9, .int .i64 1])
  clear hb1 HOf
  go_wp2_with fail
  refine (HWin.out _).mono ?_
  rintro e w2 ⟨rfl, hb2⟩
  have HB2 := Lib.hid (below_via hb2 HB1.out)
  have HK2 := Lib.hid (Blk.after hb2 HK1.out)
  obtain ⟨c0, c1, c2, c3, c4, c5⟩ := HK2.out.six
  clear hb2 HB1 HK1 HWin
  go_wp2_with fail
  refine (HS5.out _).mono ?_
  rintro e w3 ⟨rfl, hb3⟩
  have HB3 := Lib.hid (below_via hb3 HB2.out)
  have HK3 := Lib.hid (Blk.after hb3 HK2.out)
  clear c0 c1 c2 c3 c4 c5
  obtain ⟨c0, c1, c2, c3, c4, c5⟩ := HK3.out.six
  clear hb3 HB2 HK2 HS5
  go_wp2_with fail
  refine (HS3.out _).mono ?_
  rintro e w4 ⟨rfl, hb4⟩
  have HB4 := Lib.hid (below_via hb4 HB3.out)
  have HK4 := Lib.hid (Blk.after hb4 HK3.out)
  clear c0 c1 c2 c3 c4 c5
  obtain ⟨c0, c1, c2, c3, c4, c5⟩ := HK4.out.six
  clear hb4 HB3 HK3 HS3
  go_wp2_with fail
  refine (HP.out _).mono ?_
  rintro e w5 ⟨g, cp, _, rfl, hb5⟩
  have HB5 := Lib.hid (below_via hb5 HB4.out)
  clear hb5 HB4 c0 c1 c2 c3 c4 c5
  go_wp2
  go_ret
  exact ⟨rfl, HB5.out⟩
end Go.Proofs.Ytlndlcdamimbdaa
