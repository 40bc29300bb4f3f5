/- The walk of slot's Of. -/
import Derived.Test.YtlndlcdamimbdaaSlotWin
import Derived.Lib.SmallJoins
namespace Go.Proofs.Ytlndlcdamimbdaa
open Go.RowKit

def kindF (low high s : Int) : Int := if s ≤ low then 2 else if high ≤ s then 1 else 3
abbrev zeroS : Sl := ⟨0, 0, 0, 0, 0, 0⟩
/-- What a search knows. -/
def ofS (hi lo : Nat) (low high s work age : Int) : Sl := if mayS ⟨hi, lo, kindF low high s, s, work, age⟩ = true then ⟨hi, lo, kindF low high s, s, work, age⟩ else zeroS

theorem of_blocks (hi lo : Nat) (k s work age : Int) {w w1 : World} (hb : Below (((w.alloc (.cells #[.int .u64 hi, .int .u64 lo] 35)).alloc (.cells #[.int .u64 0, .int .u64 0, .int .i64 0, .int .i64 0, .int .i64 0, .int .i64 0] 38)).alloc (.cells #[.int .u64 hi, .int .u64 lo, .int .i64 k, .int .i64 s, .int .i64 work, .int .i64 age] 38)).heap.size (((w.alloc (.cells #[.int .u64 hi, .int .u64 lo] 35)).alloc (.cells #[.int .u64 0, .int .u64 0, .int .i64 0, .int .i64 0, .int .i64 0, .int .i64 0] 38)).alloc (.cells #[.int .u64 hi, .int .u64 lo, .int .i64 k, .int .i64 s, .int .i64 work, .int .i64 age] 38)) w1) :
    Hid (Below w.heap.size w w1) ∧ Hid (w1.heap[w.heap.size + 1]? = some (.cells #[.int .u64 0, .int .u64 0, .int .i64 0, .int .i64 0, .int .i64 0, .int .i64 0] 38 (0, 0))) ∧ Hid (w1.heap[w.heap.size + 1 + 1]? = some (.cells #[.int .u64 hi, .int .u64 lo, .int .i64 k, .int .i64 s, .int .i64 work, .int .i64 age] 38 (0, 0))) := by
  have e1 : (w.alloc (.cells #[.int .u64 hi, .int .u64 lo] 35)).heap.size = w.heap.size + 1 := World.size_alloc _ _
  have e2 : ((w.alloc (.cells #[.int .u64 hi, .int .u64 lo] 35)).alloc (.cells #[.int .u64 0, .int .u64 0, .int .i64 0, .int .i64 0, .int .i64 0, .int .i64 0] 38)).heap.size = w.heap.size + 1 + 1 := by rw [World.size_alloc, e1]
  refine ⟨((((Below.refl _ w).alloc (Nat.le_refl _) _).alloc (by omega) _).alloc (by omega) _).trans (hb.mono (by rw [World.size_alloc]; omega)), ?_, ?_⟩
  · have h := heap_alloc_new (w.alloc (.cells #[.int .u64 hi, .int .u64 lo] 35)) (.cells #[.int .u64 0, .int .u64 0, .int .i64 0, .int .i64 0, .int .i64 0, .int .i64 0] 38)
    rw [e1] at h
    show w1.heap[w.heap.size + 1]? = _
    rw [hb.block _ (by rw [World.size_alloc]; omega), Below.heap_alloc _ _ _ (by omega)]
    exact h
  · have h := heap_alloc_new ((w.alloc (.cells #[.int .u64 hi, .int .u64 lo] 35)).alloc (.cells #[.int .u64 0, .int .u64 0, .int .i64 0, .int .i64 0, .int .i64 0, .int .i64 0] 38)) (.cells #[.int .u64 hi, .int .u64 lo, .int .i64 k, .int .i64 s, .int .i64 work, .int .i64 age] 38)
    rw [e2] at h
    show w1.heap[w.heap.size + 1 + 1]? = _
    rw [hb.block _ (by rw [World.size_alloc]; omega)]
    exact h

theorem six_below {w w1 : World} (h : Below w.heap.size w w1) (a b c d e f : Value) :
    Below w.heap.size w ((((((w1.setCell ⟨w.heap.size + 1, 0, none⟩ a).setCell ⟨w.heap.size + 1, 1, none⟩ b).setCell ⟨w.heap.size + 1, 2, none⟩ c).setCell ⟨w.heap.size + 1, 3, none⟩ d).setCell ⟨w.heap.size + 1, 4, none⟩ e).setCell ⟨w.heap.size + 1, 5, none⟩ f) :=
  (((((h.setCell (by show _ ≤ w.heap.size + 1; omega) a).setCell (by show _ ≤ w.heap.size + 1; omega) b).setCell (by show _ ≤ w.heap.size + 1; omega) c).setCell (by show _ ≤ w.heap.size + 1; omega) d).setCell (by show _ ≤ w.heap.size + 1; omega) e).setCell (by show _ ≤ w.heap.size + 1; omega) f

set_option maxHeartbeats 1600000 in
theorem of_any (hi lo : Nat) (low high s work age : Int) (w : World) : Calls Try.prog 22 #[.agg #[.int .u64 hi, .int .u64 lo], .int .i64 low, .int .i64 high, .int .i64 s, .int .i64 work, .int .i64 age] w fun e w' => e = .returned (ofS hi lo low high s work age).val ∧ Below w.heap.size w w' := by
  by_cases h1 : s ≤ low
  · skip
    have hk : kindF low high s = 2 := by unfold kindF; first | rw [if_pos (by omega)] | rw [if_neg (by omega), if_pos (by omega)] | rw [if_neg (by omega), if_neg (by omega)]
    cases hm : mayS ⟨hi, lo, 2, s, work, age⟩ with
    | true =>
      have HE : Hid (ofS hi lo low high s work age = ⟨hi, lo, 2, s, work, age⟩) := by
        show ofS _ _ _ _ _ _ _ = _
        unfold ofS; rw [hk, if_pos hm]
      clear hk
      go_enter Try.func22, Try.ntmps22
      go_wp2_with fail
      refine (may_any ⟨hi, lo, 2, s, work, age⟩ _).mono ?_
      rintro e w1 ⟨rfl, hb⟩
      obtain ⟨HB, H12, H14⟩ := of_blocks hi lo 2 s work age hb
      clear hb
      have c0 := Go.Joins.cell_of_block H14.out 0
      have c1 := Go.Joins.cell_of_block H14.out 1
      have c2 := Go.Joins.cell_of_block H14.out 2
      have c3 := Go.Joins.cell_of_block H14.out 3
      have c4 := Go.Joins.cell_of_block H14.out 4
      have c5 := Go.Joins.cell_of_block H14.out 5
      have d0 := Go.Joins.cell_of_block H12.out 0
      have d1 := Go.Joins.cell_of_block H12.out 1
      have d2 := Go.Joins.cell_of_block H12.out 2
      have d3 := Go.Joins.cell_of_block H12.out 3
      have d4 := Go.Joins.cell_of_block H12.out 4
      have d5 := Go.Joins.cell_of_block H12.out 5
      have f0 := Go.Joins.unfrozen_of_block H12.out 0
      have f1 := Go.Joins.unfrozen_of_block H12.out 1
      have f2 := Go.Joins.unfrozen_of_block H12.out 2
      have f3 := Go.Joins.unfrozen_of_block H12.out 3
      have f4 := Go.Joins.unfrozen_of_block H12.out 4
      have f5 := Go.Joins.unfrozen_of_block H12.out 5
      simp at c0 c1 c2 c3 c4 c5 d0 d1 d2 d3 d4 d5
      go_wp2
      exact bodyPost_ret (v := Sl.val ⟨hi, lo, 2, s, work, age⟩) (by simp [results, Try.results22, go_sem, d0, d1, d2, d3, d4, d5]) rfl ⟨by rw [HE.out], six_below HB.out _ _ _ _ _ _⟩
    | false =>
      have HE : Hid (ofS hi lo low high s work age = zeroS) := by
        show ofS _ _ _ _ _ _ _ = _
        unfold ofS; rw [hk, if_neg (by rw [hm]; decide)]
      clear hk
      go_enter Try.func22, Try.ntmps22
      go_wp2_with fail
      refine (may_any ⟨hi, lo, 2, s, work, age⟩ _).mono ?_
      rintro e w1 ⟨rfl, hb⟩
      obtain ⟨HB, H12, H14⟩ := of_blocks hi lo 2 s work age hb
      clear hb
      have c0 := Go.Joins.cell_of_block H14.out 0
      have c1 := Go.Joins.cell_of_block H14.out 1
      have c2 := Go.Joins.cell_of_block H14.out 2
      have c3 := Go.Joins.cell_of_block H14.out 3
      have c4 := Go.Joins.cell_of_block H14.out 4
      have c5 := Go.Joins.cell_of_block H14.out 5
      have d0 := Go.Joins.cell_of_block H12.out 0
      have d1 := Go.Joins.cell_of_block H12.out 1
      have d2 := Go.Joins.cell_of_block H12.out 2
      have d3 := Go.Joins.cell_of_block H12.out 3
      have d4 := Go.Joins.cell_of_block H12.out 4
      have d5 := Go.Joins.cell_of_block H12.out 5
      have f0 := Go.Joins.unfrozen_of_block H12.out 0
      have f1 := Go.Joins.unfrozen_of_block H12.out 1
      have f2 := Go.Joins.unfrozen_of_block H12.out 2
      have f3 := Go.Joins.unfrozen_of_block H12.out 3
      have f4 := Go.Joins.unfrozen_of_block H12.out 4
      have f5 := Go.Joins.unfrozen_of_block H12.out 5
      simp at c0 c1 c2 c3 c4 c5 d0 d1 d2 d3 d4 d5
      go_wp2
      exact bodyPost_ret (v := Sl.val zeroS) (by simp [results, Try.results22, go_sem, d0, d1, d2, d3, d4, d5]) rfl ⟨by rw [HE.out], six_below HB.out _ _ _ _ _ _⟩
  · by_cases h2 : high ≤ s
    · skip
      have hk : kindF low high s = 1 := by unfold kindF; first | rw [if_pos (by omega)] | rw [if_neg (by omega), if_pos (by omega)] | rw [if_neg (by omega), if_neg (by omega)]
      cases hm : mayS ⟨hi, lo, 1, s, work, age⟩ with
      | true =>
        have HE : Hid (ofS hi lo low high s work age = ⟨hi, lo, 1, s, work, age⟩) := by
          show ofS _ _ _ _ _ _ _ = _
          unfold ofS; rw [hk, if_pos hm]
        clear hk
        go_enter Try.func22, Try.ntmps22
        go_wp2_with fail
        refine (may_any ⟨hi, lo, 1, s, work, age⟩ _).mono ?_
        rintro e w1 ⟨rfl, hb⟩
        obtain ⟨HB, H12, H14⟩ := of_blocks hi lo 1 s work age hb
        clear hb
        have c0 := Go.Joins.cell_of_block H14.out 0
        have c1 := Go.Joins.cell_of_block H14.out 1
        have c2 := Go.Joins.cell_of_block H14.out 2
        have c3 := Go.Joins.cell_of_block H14.out 3
        have c4 := Go.Joins.cell_of_block H14.out 4
        have c5 := Go.Joins.cell_of_block H14.out 5
        have d0 := Go.Joins.cell_of_block H12.out 0
        have d1 := Go.Joins.cell_of_block H12.out 1
        have d2 := Go.Joins.cell_of_block H12.out 2
        have d3 := Go.Joins.cell_of_block H12.out 3
        have d4 := Go.Joins.cell_of_block H12.out 4
        have d5 := Go.Joins.cell_of_block H12.out 5
        have f0 := Go.Joins.unfrozen_of_block H12.out 0
        have f1 := Go.Joins.unfrozen_of_block H12.out 1
        have f2 := Go.Joins.unfrozen_of_block H12.out 2
        have f3 := Go.Joins.unfrozen_of_block H12.out 3
        have f4 := Go.Joins.unfrozen_of_block H12.out 4
        have f5 := Go.Joins.unfrozen_of_block H12.out 5
        simp at c0 c1 c2 c3 c4 c5 d0 d1 d2 d3 d4 d5
        go_wp2
        exact bodyPost_ret (v := Sl.val ⟨hi, lo, 1, s, work, age⟩) (by simp [results, Try.results22, go_sem, d0, d1, d2, d3, d4, d5]) rfl ⟨by rw [HE.out], six_below HB.out _ _ _ _ _ _⟩
      | false =>
        have HE : Hid (ofS hi lo low high s work age = zeroS) := by
          show ofS _ _ _ _ _ _ _ = _
          unfold ofS; rw [hk, if_neg (by rw [hm]; decide)]
        clear hk
        go_enter Try.func22, Try.ntmps22
        go_wp2_with fail
        refine (may_any ⟨hi, lo, 1, s, work, age⟩ _).mono ?_
        rintro e w1 ⟨rfl, hb⟩
        obtain ⟨HB, H12, H14⟩ := of_blocks hi lo 1 s work age hb
        clear hb
        have c0 := Go.Joins.cell_of_block H14.out 0
        have c1 := Go.Joins.cell_of_block H14.out 1
        have c2 := Go.Joins.cell_of_block H14.out 2
        have c3 := Go.Joins.cell_of_block H14.out 3
        have c4 := Go.Joins.cell_of_block H14.out 4
        have c5 := Go.Joins.cell_of_block H14.out 5
        have d0 := Go.Joins.cell_of_block H12.out 0
        have d1 := Go.Joins.cell_of_block H12.out 1
        have d2 := Go.Joins.cell_of_block H12.out 2
        have d3 := Go.Joins.cell_of_block H12.out 3
        have d4 := Go.Joins.cell_of_block H12.out 4
        have d5 := Go.Joins.cell_of_block H12.out 5
        have f0 := Go.Joins.unfrozen_of_block H12.out 0
        have f1 := Go.Joins.unfrozen_of_block H12.out 1
        have f2 := Go.Joins.unfrozen_of_block H12.out 2
        have f3 := Go.Joins.unfrozen_of_block H12.out 3
        have f4 := Go.Joins.unfrozen_of_block H12.out 4
        have f5 := Go.Joins.unfrozen_of_block H12.out 5
        simp at c0 c1 c2 c3 c4 c5 d0 d1 d2 d3 d4 d5
        go_wp2
        exact bodyPost_ret (v := Sl.val zeroS) (by simp [results, Try.results22, go_sem, d0, d1, d2, d3, d4, d5]) rfl ⟨by rw [HE.out], six_below HB.out _ _ _ _ _ _⟩
    · skip
      have hk : kindF low high s = 3 := by unfold kindF; first | rw [if_pos (by omega)] | rw [if_neg (by omega), if_pos (by omega)] | rw [if_neg (by omega), if_neg (by omega)]
      cases hm : mayS ⟨hi, lo, 3, s, work, age⟩ with
      | true =>
        have HE : Hid (ofS hi lo low high s work age = ⟨hi, lo, 3, s, work, age⟩) := by
          show ofS _ _ _ _ _ _ _ = _
          unfold ofS; rw [hk, if_pos hm]
        clear hk
        go_enter Try.func22, Try.ntmps22
        go_wp2_with fail
        refine (may_any ⟨hi, lo, 3, s, work, age⟩ _).mono ?_
        rintro e w1 ⟨rfl, hb⟩
        obtain ⟨HB, H12, H14⟩ := of_blocks hi lo 3 s work age hb
        clear hb
        have c0 := Go.Joins.cell_of_block H14.out 0
        have c1 := Go.Joins.cell_of_block H14.out 1
        have c2 := Go.Joins.cell_of_block H14.out 2
        have c3 := Go.Joins.cell_of_block H14.out 3
        have c4 := Go.Joins.cell_of_block H14.out 4
        have c5 := Go.Joins.cell_of_block H14.out 5
        have d0 := Go.Joins.cell_of_block H12.out 0
        have d1 := Go.Joins.cell_of_block H12.out 1
        have d2 := Go.Joins.cell_of_block H12.out 2
        have d3 := Go.Joins.cell_of_block H12.out 3
        have d4 := Go.Joins.cell_of_block H12.out 4
        have d5 := Go.Joins.cell_of_block H12.out 5
        have f0 := Go.Joins.unfrozen_of_block H12.out 0
        have f1 := Go.Joins.unfrozen_of_block H12.out 1
        have f2 := Go.Joins.unfrozen_of_block H12.out 2
        have f3 := Go.Joins.unfrozen_of_block H12.out 3
        have f4 := Go.Joins.unfrozen_of_block H12.out 4
        have f5 := Go.Joins.unfrozen_of_block H12.out 5
        simp at c0 c1 c2 c3 c4 c5 d0 d1 d2 d3 d4 d5
        go_wp2
        exact bodyPost_ret (v := Sl.val ⟨hi, lo, 3, s, work, age⟩) (by simp [results, Try.results22, go_sem, d0, d1, d2, d3, d4, d5]) rfl ⟨by rw [HE.out], six_below HB.out _ _ _ _ _ _⟩
      | false =>
        have HE : Hid (ofS hi lo low high s work age = zeroS) := by
          show ofS _ _ _ _ _ _ _ = _
          unfold ofS; rw [hk, if_neg (by rw [hm]; decide)]
        clear hk
        go_enter Try.func22, Try.ntmps22
        go_wp2_with fail
        refine (may_any ⟨hi, lo, 3, s, work, age⟩ _).mono ?_
        rintro e w1 ⟨rfl, hb⟩
        obtain ⟨HB, H12, H14⟩ := of_blocks hi lo 3 s work age hb
        clear hb
        have c0 := Go.Joins.cell_of_block H14.out 0
        have c1 := Go.Joins.cell_of_block H14.out 1
        have c2 := Go.Joins.cell_of_block H14.out 2
        have c3 := Go.Joins.cell_of_block H14.out 3
        have c4 := Go.Joins.cell_of_block H14.out 4
        have c5 := Go.Joins.cell_of_block H14.out 5
        have d0 := Go.Joins.cell_of_block H12.out 0
        have d1 := Go.Joins.cell_of_block H12.out 1
        have d2 := Go.Joins.cell_of_block H12.out 2
        have d3 := Go.Joins.cell_of_block H12.out 3
        have d4 := Go.Joins.cell_of_block H12.out 4
        have d5 := Go.Joins.cell_of_block H12.out 5
        have f0 := Go.Joins.unfrozen_of_block H12.out 0
        have f1 := Go.Joins.unfrozen_of_block H12.out 1
        have f2 := Go.Joins.unfrozen_of_block H12.out 2
        have f3 := Go.Joins.unfrozen_of_block H12.out 3
        have f4 := Go.Joins.unfrozen_of_block H12.out 4
        have f5 := Go.Joins.unfrozen_of_block H12.out 5
        simp at c0 c1 c2 c3 c4 c5 d0 d1 d2 d3 d4 d5
        go_wp2
        exact bodyPost_ret (v := Sl.val zeroS) (by simp [results, Try.results22, go_sem, d0, d1, d2, d3, d4, d5]) rfl ⟨by rw [HE.out], six_below HB.out _ _ _ _ _ _⟩
end Go.Proofs.Ytlndlcdamimbdaa
