/- The law SlotWindow: its walk. -/
import Derived.Test.YtlndlcdamimbdaaSlotLive
namespace Go.Proofs.Ytlndlcdamimbdaa
open Go.RowKit

/-- A world that the call has come to: the slot lies where it lay. -/
structure At (w w' : World) (g : Nat) (cs : Array Value) : Prop where
  blk : Blk w' g 38 cs
  bel : Below w.heap.size w w'
theorem At.after {w w1 w2 : World} {g : Nat} {cs : Array Value} (hb : Below w1.heap.size w1 w2) (h : At w w1 g cs) : At w w2 g cs := ⟨Blk.after hb h.blk, below_via hb h.bel⟩
theorem At.drew {w w1 : World} {g : Nat} {cs : Array Value} (h : At w w1 g cs) : At w w1.drew g cs := ⟨h.blk, h.bel.drew⟩

set_option maxHeartbeats 1600000 in
theorem win_out (hi lo : Nat) (kind score work age a b x l u : Int) (q : Bool) (w : World) (HW : Hid (∀ w : World, Calls Try.prog 27 #[.agg #[.int .u64 hi, .int .u64 lo, .int .i64 kind, .int .i64 score, .int .i64 work, .int .i64 age], .int .i64 a, .int .i64 b] w fun e w' => e = .returned (.tuple #[.int .i64 l, .int .i64 u]) ∧ Below w.heap.size w w'))
    (HS : Hid (∀ w : World, Calls Try.prog 26 #[.agg #[.int .u64 hi, .int .u64 lo, .int .i64 kind, .int .i64 score, .int .i64 work, .int .i64 age], .int .i64 x] w fun e w' => e = .returned (.bool q) ∧ Below w.heap.size w w')) (HR : Hid (∀ w : World, Calls Try.prog 28 #[.agg #[.int .u64 hi, .int .u64 lo, .int .i64 kind, .int .i64 score, .int .i64 work, .int .i64 age], .int .i64 x] w fun e w' => e = .returned (.bool q) ∧ Below w.heap.size w w'))
    (hl : a ≤ l) (hu : u ≤ b) (hk : kind < 0 ∨ 3 < kind) (ha : l = a) (hb : u = b) : Calls Try.prog 5 #[.agg #[.int .u64 hi, .int .u64 lo, .int .i64 kind, .int .i64 score, .int .i64 work, .int .i64 age], .int .i64 a, .int .i64 b, .int .i64 x] w fun e w' => e = .returned (.bool true) ∧ Below w.heap.size w w' := by
  have HA0 : Hid (At w (w.alloc (.cells #[.int .u64 hi, .int .u64 lo, .int .i64 kind, .int .i64 score, .int .i64 work, .int .i64 age] 38)) w.heap.size #[.int .u64 hi, .int .u64 lo, .int .i64 kind, .int .i64 score, .int .i64 work, .int .i64 age]) := ⟨Blk.new w 38 _, (Below.refl _ w).alloc (Nat.le_refl _) _⟩
  have hdl : decide (l < a) = false := decide_eq_false (by omega)
  have hdu : decide (b < u) = false := decide_eq_false (by omega)
  go_enter Try.func5, Try.ntmps5
  go_wp2_with fail
  refine (HW.out _).mono ?_
  rintro e w1 ⟨rfl, hb1⟩
  have HA1 := Lib.hid (At.after hb1 HA0.out)
  clear hb1 HA0 HW
  obtain ⟨c0, c1, c2, c3, c4, c5⟩ := HA1.out.blk.six
  go_wp2_with fail
  go_region_held3 (fun w' => w'.cell? ⟨w.heap.size, 0, none⟩ = some (.int .u64 hi) ∧ w'.cell? ⟨w.heap.size, 1, none⟩ = some (.int .u64 lo) ∧ w'.cell? ⟨w.heap.size, 2, none⟩ = some (.int .i64 kind) ∧ w'.cell? ⟨w.heap.size, 3, none⟩ = some (.int .i64 score) ∧ w'.cell? ⟨w.heap.size, 4, none⟩ = some (.int .i64 work) ∧ w'.cell? ⟨w.heap.size, 5, none⟩ = some (.int .i64 age)) (first | exact hst.blk.six | exact HA1.out.blk.six) (first
    | (go_at_call 26; refine (HS.out _).mono ?_; rintro e w2 ⟨rfl, hb⟩
       have hst : At w w2 w.heap.size #[.int .u64 hi, .int .u64 lo, .int .i64 kind, .int .i64 score, .int .i64 work, .int .i64 age] := by first | exact At.after hb HA1.out.drew | exact At.after hb hst
       clear hb)
    | (go_at_call 28; refine (HR.out _).mono ?_; rintro e w3 ⟨rfl, hb⟩
       have hst : At w w3 w.heap.size #[.int .u64 hi, .int .u64 lo, .int .i64 kind, .int .i64 score, .int .i64 work, .int .i64 age] := by first | exact At.after hb HA1.out.drew | exact At.after hb hst
       clear hb))
  have HA2 := Lib.hid hst
  clear hst HA1 c0 c1 c2 c3 c4 c5 HS
  obtain ⟨c0, c1, c2, c3, c4, c5⟩ := HA2.out.blk.six

  subst ha
  subst hb
  rcases hk with hk | hk
  · go_wp2_with fail
    refine (live22_any _).mono ?_
    rintro e w4 ⟨rfl, hb⟩
    have HB := Lib.hid (below_via hb HA2.out.bel)
    clear hb HA2
    go_wp2
    all_goals go_ret
    all_goals exact ⟨by simp_all, HB.out⟩
  · have hk0 : ¬ kind < 0 := by omega
    go_wp2_with fail
    refine (live22_any _).mono ?_
    rintro e w4 ⟨rfl, hb⟩
    have HB := Lib.hid (below_via hb HA2.out.bel)
    clear hb HA2
    go_wp2
    all_goals go_ret
    all_goals exact ⟨by simp_all, HB.out⟩
set_option maxHeartbeats 1600000 in
theorem win_lt (hi lo : Nat) (kind score work age a b x l u : Int) (q : Bool) (w : World) (HW : Hid (∀ w : World, Calls Try.prog 27 #[.agg #[.int .u64 hi, .int .u64 lo, .int .i64 kind, .int .i64 score, .int .i64 work, .int .i64 age], .int .i64 a, .int .i64 b] w fun e w' => e = .returned (.tuple #[.int .i64 l, .int .i64 u]) ∧ Below w.heap.size w w'))
    (HS : Hid (∀ w : World, Calls Try.prog 26 #[.agg #[.int .u64 hi, .int .u64 lo, .int .i64 kind, .int .i64 score, .int .i64 work, .int .i64 age], .int .i64 x] w fun e w' => e = .returned (.bool q) ∧ Below w.heap.size w w')) (HR : Hid (∀ w : World, Calls Try.prog 28 #[.agg #[.int .u64 hi, .int .u64 lo, .int .i64 kind, .int .i64 score, .int .i64 work, .int .i64 age], .int .i64 x] w fun e w' => e = .returned (.bool q) ∧ Below w.heap.size w w'))
    (hl : a ≤ l) (hu : u ≤ b) (hk : 0 ≤ kind ∧ kind ≤ 3) (hx : x < a) : Calls Try.prog 5 #[.agg #[.int .u64 hi, .int .u64 lo, .int .i64 kind, .int .i64 score, .int .i64 work, .int .i64 age], .int .i64 a, .int .i64 b, .int .i64 x] w fun e w' => e = .returned (.bool true) ∧ Below w.heap.size w w' := by
  have HA0 : Hid (At w (w.alloc (.cells #[.int .u64 hi, .int .u64 lo, .int .i64 kind, .int .i64 score, .int .i64 work, .int .i64 age] 38)) w.heap.size #[.int .u64 hi, .int .u64 lo, .int .i64 kind, .int .i64 score, .int .i64 work, .int .i64 age]) := ⟨Blk.new w 38 _, (Below.refl _ w).alloc (Nat.le_refl _) _⟩
  have hdl : decide (l < a) = false := decide_eq_false (by omega)
  have hdu : decide (b < u) = false := decide_eq_false (by omega)
  go_enter Try.func5, Try.ntmps5
  go_wp2_with fail
  refine (HW.out _).mono ?_
  rintro e w1 ⟨rfl, hb1⟩
  have HA1 := Lib.hid (At.after hb1 HA0.out)
  clear hb1 HA0 HW
  obtain ⟨c0, c1, c2, c3, c4, c5⟩ := HA1.out.blk.six
  go_wp2_with fail
  go_region_held3 (fun w' => w'.cell? ⟨w.heap.size, 0, none⟩ = some (.int .u64 hi) ∧ w'.cell? ⟨w.heap.size, 1, none⟩ = some (.int .u64 lo) ∧ w'.cell? ⟨w.heap.size, 2, none⟩ = some (.int .i64 kind) ∧ w'.cell? ⟨w.heap.size, 3, none⟩ = some (.int .i64 score) ∧ w'.cell? ⟨w.heap.size, 4, none⟩ = some (.int .i64 work) ∧ w'.cell? ⟨w.heap.size, 5, none⟩ = some (.int .i64 age)) (first | exact hst.blk.six | exact HA1.out.blk.six) (first
    | (go_at_call 26; refine (HS.out _).mono ?_; rintro e w2 ⟨rfl, hb⟩
       have hst : At w w2 w.heap.size #[.int .u64 hi, .int .u64 lo, .int .i64 kind, .int .i64 score, .int .i64 work, .int .i64 age] := by first | exact At.after hb HA1.out.drew | exact At.after hb hst
       clear hb)
    | (go_at_call 28; refine (HR.out _).mono ?_; rintro e w3 ⟨rfl, hb⟩
       have hst : At w w3 w.heap.size #[.int .u64 hi, .int .u64 lo, .int .i64 kind, .int .i64 score, .int .i64 work, .int .i64 age] := by first | exact At.after hb HA1.out.drew | exact At.after hb hst
       clear hb))
  have HA2 := Lib.hid hst
  clear hst HA1 c0 c1 c2 c3 c4 c5 HS
  obtain ⟨c0, c1, c2, c3, c4, c5⟩ := HA2.out.blk.six

  obtain ⟨hk1, hk2⟩ := hk
  have hxl : x < l := by omega
  go_wp2_with fail
  refine (live22_any _).mono ?_
  rintro e w4 ⟨rfl, hb⟩
  have HB := Lib.hid (below_via hb HA2.out.bel)
  clear hb HA2
  go_wp2
  all_goals go_ret
  all_goals exact ⟨by simp_all, HB.out⟩
set_option maxHeartbeats 1600000 in
theorem win_gt (hi lo : Nat) (kind score work age a b x l u : Int) (q : Bool) (w : World) (HW : Hid (∀ w : World, Calls Try.prog 27 #[.agg #[.int .u64 hi, .int .u64 lo, .int .i64 kind, .int .i64 score, .int .i64 work, .int .i64 age], .int .i64 a, .int .i64 b] w fun e w' => e = .returned (.tuple #[.int .i64 l, .int .i64 u]) ∧ Below w.heap.size w w'))
    (HS : Hid (∀ w : World, Calls Try.prog 26 #[.agg #[.int .u64 hi, .int .u64 lo, .int .i64 kind, .int .i64 score, .int .i64 work, .int .i64 age], .int .i64 x] w fun e w' => e = .returned (.bool q) ∧ Below w.heap.size w w')) (HR : Hid (∀ w : World, Calls Try.prog 28 #[.agg #[.int .u64 hi, .int .u64 lo, .int .i64 kind, .int .i64 score, .int .i64 work, .int .i64 age], .int .i64 x] w fun e w' => e = .returned (.bool q) ∧ Below w.heap.size w w'))
    (hl : a ≤ l) (hu : u ≤ b) (hk : 0 ≤ kind ∧ kind ≤ 3) (hx : a ≤ x) (hy : b < x) : Calls Try.prog 5 #[.agg #[.int .u64 hi, .int .u64 lo, .int .i64 kind, .int .i64 score, .int .i64 work, .int .i64 age], .int .i64 a, .int .i64 b, .int .i64 x] w fun e w' => e = .returned (.bool true) ∧ Below w.heap.size w w' := by
  have HA0 : Hid (At w (w.alloc (.cells #[.int .u64 hi, .int .u64 lo, .int .i64 kind, .int .i64 score, .int .i64 work, .int .i64 age] 38)) w.heap.size #[.int .u64 hi, .int .u64 lo, .int .i64 kind, .int .i64 score, .int .i64 work, .int .i64 age]) := ⟨Blk.new w 38 _, (Below.refl _ w).alloc (Nat.le_refl _) _⟩
  have hdl : decide (l < a) = false := decide_eq_false (by omega)
  have hdu : decide (b < u) = false := decide_eq_false (by omega)
  go_enter Try.func5, Try.ntmps5
  go_wp2_with fail
  refine (HW.out _).mono ?_
  rintro e w1 ⟨rfl, hb1⟩
  have HA1 := Lib.hid (At.after hb1 HA0.out)
  clear hb1 HA0 HW
  obtain ⟨c0, c1, c2, c3, c4, c5⟩ := HA1.out.blk.six
  go_wp2_with fail
  go_region_held3 (fun w' => w'.cell? ⟨w.heap.size, 0, none⟩ = some (.int .u64 hi) ∧ w'.cell? ⟨w.heap.size, 1, none⟩ = some (.int .u64 lo) ∧ w'.cell? ⟨w.heap.size, 2, none⟩ = some (.int .i64 kind) ∧ w'.cell? ⟨w.heap.size, 3, none⟩ = some (.int .i64 score) ∧ w'.cell? ⟨w.heap.size, 4, none⟩ = some (.int .i64 work) ∧ w'.cell? ⟨w.heap.size, 5, none⟩ = some (.int .i64 age)) (first | exact hst.blk.six | exact HA1.out.blk.six) (first
    | (go_at_call 26; refine (HS.out _).mono ?_; rintro e w2 ⟨rfl, hb⟩
       have hst : At w w2 w.heap.size #[.int .u64 hi, .int .u64 lo, .int .i64 kind, .int .i64 score, .int .i64 work, .int .i64 age] := by first | exact At.after hb HA1.out.drew | exact At.after hb hst
       clear hb)
    | (go_at_call 28; refine (HR.out _).mono ?_; rintro e w3 ⟨rfl, hb⟩
       have hst : At w w3 w.heap.size #[.int .u64 hi, .int .u64 lo, .int .i64 kind, .int .i64 score, .int .i64 work, .int .i64 age] := by first | exact At.after hb HA1.out.drew | exact At.after hb hst
       clear hb))
  have HA2 := Lib.hid hst
  clear hst HA1 c0 c1 c2 c3 c4 c5 HS
  obtain ⟨c0, c1, c2, c3, c4, c5⟩ := HA2.out.blk.six

  obtain ⟨hk1, hk2⟩ := hk
  have hxu : u < x := by omega
  go_wp2_with fail
  refine (live22_any _).mono ?_
  rintro e w4 ⟨rfl, hb⟩
  have HB := Lib.hid (below_via hb HA2.out.bel)
  clear hb HA2
  go_wp2
  all_goals go_ret
  all_goals exact ⟨by simp_all, HB.out⟩
set_option maxHeartbeats 1600000 in
theorem win_in (hi lo : Nat) (kind score work age a b x l u : Int) (q : Bool) (w : World) (HW : Hid (∀ w : World, Calls Try.prog 27 #[.agg #[.int .u64 hi, .int .u64 lo, .int .i64 kind, .int .i64 score, .int .i64 work, .int .i64 age], .int .i64 a, .int .i64 b] w fun e w' => e = .returned (.tuple #[.int .i64 l, .int .i64 u]) ∧ Below w.heap.size w w'))
    (HS : Hid (∀ w : World, Calls Try.prog 26 #[.agg #[.int .u64 hi, .int .u64 lo, .int .i64 kind, .int .i64 score, .int .i64 work, .int .i64 age], .int .i64 x] w fun e w' => e = .returned (.bool q) ∧ Below w.heap.size w w')) (HR : Hid (∀ w : World, Calls Try.prog 28 #[.agg #[.int .u64 hi, .int .u64 lo, .int .i64 kind, .int .i64 score, .int .i64 work, .int .i64 age], .int .i64 x] w fun e w' => e = .returned (.bool q) ∧ Below w.heap.size w w'))
    (hl : a ≤ l) (hu : u ≤ b) (hk : 0 ≤ kind ∧ kind ≤ 3) (hx : a ≤ x) (hy : x ≤ b) (hq : q = (decide (l ≤ x) && decide (x ≤ u))) : Calls Try.prog 5 #[.agg #[.int .u64 hi, .int .u64 lo, .int .i64 kind, .int .i64 score, .int .i64 work, .int .i64 age], .int .i64 a, .int .i64 b, .int .i64 x] w fun e w' => e = .returned (.bool true) ∧ Below w.heap.size w w' := by
  have HA0 : Hid (At w (w.alloc (.cells #[.int .u64 hi, .int .u64 lo, .int .i64 kind, .int .i64 score, .int .i64 work, .int .i64 age] 38)) w.heap.size #[.int .u64 hi, .int .u64 lo, .int .i64 kind, .int .i64 score, .int .i64 work, .int .i64 age]) := ⟨Blk.new w 38 _, (Below.refl _ w).alloc (Nat.le_refl _) _⟩
  have hdl : decide (l < a) = false := decide_eq_false (by omega)
  have hdu : decide (b < u) = false := decide_eq_false (by omega)
  go_enter Try.func5, Try.ntmps5
  go_wp2_with fail
  refine (HW.out _).mono ?_
  rintro e w1 ⟨rfl, hb1⟩
  have HA1 := Lib.hid (At.after hb1 HA0.out)
  clear hb1 HA0 HW
  obtain ⟨c0, c1, c2, c3, c4, c5⟩ := HA1.out.blk.six
  go_wp2_with fail
  go_region_held3 (fun w' => w'.cell? ⟨w.heap.size, 0, none⟩ = some (.int .u64 hi) ∧ w'.cell? ⟨w.heap.size, 1, none⟩ = some (.int .u64 lo) ∧ w'.cell? ⟨w.heap.size, 2, none⟩ = some (.int .i64 kind) ∧ w'.cell? ⟨w.heap.size, 3, none⟩ = some (.int .i64 score) ∧ w'.cell? ⟨w.heap.size, 4, none⟩ = some (.int .i64 work) ∧ w'.cell? ⟨w.heap.size, 5, none⟩ = some (.int .i64 age)) (first | exact hst.blk.six | exact HA1.out.blk.six) (first
    | (go_at_call 26; refine (HS.out _).mono ?_; rintro e w2 ⟨rfl, hb⟩
       have hst : At w w2 w.heap.size #[.int .u64 hi, .int .u64 lo, .int .i64 kind, .int .i64 score, .int .i64 work, .int .i64 age] := by first | exact At.after hb HA1.out.drew | exact At.after hb hst
       clear hb)
    | (go_at_call 28; refine (HR.out _).mono ?_; rintro e w3 ⟨rfl, hb⟩
       have hst : At w w3 w.heap.size #[.int .u64 hi, .int .u64 lo, .int .i64 kind, .int .i64 score, .int .i64 work, .int .i64 age] := by first | exact At.after hb HA1.out.drew | exact At.after hb hst
       clear hb))
  have HA2 := Lib.hid hst
  clear hst HA1 c0 c1 c2 c3 c4 c5 HS
  obtain ⟨c0, c1, c2, c3, c4, c5⟩ := HA2.out.blk.six

  obtain ⟨hk1, hk2⟩ := hk
  have HQ := Lib.hid hq
  clear hq
  go_wp2_with fail
  refine (HR.out _).mono ?_
  rintro e w5 ⟨rfl, hb⟩
  have HA3 := Lib.hid (At.after hb HA2.out)
  clear hb HA2 HR c0 c1 c2 c3 c4 c5
  go_wp2_with fail
  refine (live22_any _).mono ?_
  rintro e w4 ⟨rfl, hb⟩
  have HB := Lib.hid (below_via hb HA3.out.bel)
  clear hb HA3
  go_wp2
  all_goals go_ret
  all_goals refine ⟨?_, HB.out⟩
  all_goals rw [HQ.out]
  all_goals simp_all
theorem slotWindow_walk (hi lo : Nat) (kind score work age a b x : Int) (w : World) : Calls Try.prog 5 #[.agg #[.int .u64 hi, .int .u64 lo, .int .i64 kind, .int .i64 score, .int .i64 work, .int .i64 age], .int .i64 a, .int .i64 b, .int .i64 x] w fun e w' => e = .returned (.bool true) ∧ Below w.heap.size w w' := by
  have HW := Lib.hid (window_any ⟨hi, lo, kind, score, work, age⟩ a b)
  have HS := Lib.hid (says_any ⟨hi, lo, kind, score, work, age⟩ x)
  have HR := Lib.hid (refSays_any ⟨hi, lo, kind, score, work, age⟩ x)
  have hl : a ≤ winLow ⟨hi, lo, kind, score, work, age⟩ a := by simp only [winLow]; split <;> (try split) <;> omega
  have hu : winHigh ⟨hi, lo, kind, score, work, age⟩ b ≤ b := by simp only [winHigh]; split <;> (try split) <;> omega
  by_cases hk : kind < 0 ∨ 3 < kind
  · exact win_out hi lo kind score work age a b x _ _ _ w HW HS HR hl hu hk (by simp only [winLow]; split <;> (try split) <;> omega) (by simp only [winHigh]; split <;> (try split) <;> omega)
  · have hk2 : 0 ≤ kind ∧ kind ≤ 3 := by omega
    by_cases hx : a ≤ x
    · by_cases hy : x ≤ b
      · refine win_in hi lo kind score work age a b x _ _ _ w HW HS HR hl hu hk2 hx hy ?_
        rw [← Bool.decide_and]
        refine decide_eq_decide.2 ?_
        simp only [winLow, winHigh]
        split <;> split <;> (try split) <;> (try split) <;> omega
      · exact win_gt hi lo kind score work age a b x _ _ _ w HW HS HR hl hu hk2 hx (by omega)
    · exact win_lt hi lo kind score work age a b x _ _ _ w HW HS HR hl hu hk2 (by omega)
end Go.Proofs.Ytlndlcdamimbdaa
