/- The walk of what the statements on budgets ask first. -/
import Derived.Test.YtlndlcdamimbdaaBudget
namespace Go.Proofs.Ytlndlcdamimbdaa
open Go.RowKit

set_option maxHeartbeats 800000 in
theorem live26_any (w : World) : Calls Try.prog 17 #[] w fun e w' => e = .returned (.bool true) ∧ Below w.heap.size w w' := by
  go_enter Try.func17, Try.ntmps17
  go_wp2_with fail
  refine (new_yes 2 w (by decide)).mono ?_
  rintro e w1 ⟨rfl, h1, b1⟩
  have H1 := Lib.hid h1
  have B1 := Lib.hid b1
  clear h1 b1
  go_wp2_with fail
  refine (take_one_yes w.heap.size 2 0 w1 H1.out (by decide) (by decide) (by decide)).mono ?_
  rintro e w2 ⟨rfl, h2, g2⟩
  have H2 : Hid (Bud w2 w.heap.size 1 1 none) := h2
  have B2 := Lib.hid (B1.out.grown g2 B1.out.size (fun k hk => by injection hk with hk; omega))
  clear h2 g2 H1 B1
  go_wp2_with fail
  refine (take_one_yes w.heap.size 1 1 w2 H2.out (by decide) (by decide) (by decide)).mono ?_
  rintro e w3 ⟨rfl, h3, g3⟩
  have H3 : Hid (Bud w3 w.heap.size 0 2 none) := h3
  have B3 := Lib.hid (B2.out.grown g3 B2.out.size (fun k hk => by injection hk with hk; omega))
  clear h3 g3 H2 B2
  go_wp2_with fail
  refine (take_one_no w.heap.size 2 w3 H3.out).mono ?_
  rintro e w4 ⟨rfl, rfl⟩
  go_wp2_with fail
  refine (new_yes (-1) w4 (by decide)).mono ?_
  rintro e w5 ⟨rfl, h5, b5⟩
  have H5 := Lib.hid h5
  have H3' := Lib.hid (H3.out.kept (b5.block _ H3.out.lt))
  have B5 := Lib.hid (below_step B3.out b5)
  have HS := Lib.hid B3.out.size
  clear h5 b5 H3 B3
  go_wp2_with fail
  refine (left_one w.heap.size 0 2 w5 H3'.out).mono ?_
  rintro e w6 ⟨rfl, rfl⟩
  go_wp2_with fail
  refine (spent_any w.heap.size 0 2 none w6 H3'.out).mono ?_
  rintro e w7 ⟨rfl, rfl⟩
  go_wp2_with fail
  refine (take_one_yes _ (-1) 0 w7 H5.out (by decide) (by decide) (by decide)).mono ?_
  rintro e w8 ⟨rfl, h8, g8⟩
  have H8 : Hid (Bud w8 w4.heap.size (-1) 1 none) := h8
  have B8 := Lib.hid (B5.out.grown g8 B5.out.size (fun k hk => by injection hk with hk; have := HS.out; omega))
  clear h8 g8 H5 B5
  go_wp2_with fail
  refine (left_one _ (-1) 1 w8 H8.out).mono ?_
  rintro e w9 ⟨rfl, rfl⟩
  go_wp2
  go_ret
  exact ⟨rfl, B8.out⟩

set_option maxHeartbeats 800000 in
theorem budgetNone_walk (n : Int) (w : World) : Calls Try.prog 7 #[.int .i64 n] w fun e w' => e = .returned (.bool true) ∧ Below w.heap.size w w' := by
  go_enter Try.func7, Try.ntmps7
  go_wp2_with fail
  refine (part_nil n w).mono ?_
  rintro e w1 ⟨rfl, rfl⟩
  go_wp2_with fail
  refine (live26_any w1).mono ?_
  rintro e w2 ⟨rfl, hb⟩
  have HB := Lib.hid hb
  clear hb
  go_wp2_with fail
  refine (take_nil w2).mono ?_
  rintro e w3 ⟨rfl, rfl⟩
  go_wp2_with fail
  refine (left_nil w3).mono ?_
  rintro e w4 ⟨rfl, rfl⟩
  go_wp2_with fail
  refine (spent_nil w4).mono ?_
  rintro e w5 ⟨rfl, rfl⟩
  go_wp2
  go_ret
  exact ⟨rfl, HB.out⟩
end Go.Proofs.Ytlndlcdamimbdaa
