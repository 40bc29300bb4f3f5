/- The law SlotOf: its walk. -/
import Derived.Test.YtlndlcdamimbdaaSlotLive
namespace Go.Proofs.Ytlndlcdamimbdaa
open Go.RowKit

theorem ofS_yes {hi lo : Nat} {low high s work age k : Int} (hk : kindF low high s = k) (hm : mayS ⟨hi, lo, k, s, work, age⟩ = true) : ofS hi lo low high s work age = ⟨hi, lo, k, s, work, age⟩ := by
  unfold ofS; rw [hk, if_pos hm]
theorem ofS_no {hi lo : Nat} {low high s work age k : Int} (hk : kindF low high s = k) (hm : mayS ⟨hi, lo, k, s, work, age⟩ = false) : ofS hi lo low high s work age = zeroS := by
  unfold ofS; rw [hk, if_neg (by rw [hm]; decide)]
theorem mayS_zero : mayS zeroS = true := by decide
theorem blk_two (w : World) (t1 t2 : TypeId) (a b : Array Value) : Blk ((w.alloc (.cells a t1)).alloc (.cells b t2)) (w.heap.size + 1) t2 b := by
  have h := Blk.new (w.alloc (.cells a t1)) t2 b
  rwa [World.size_alloc] at h

set_option maxHeartbeats 1600000 in
theorem slotOf_walk (hi lo : Nat) (low high s x : Int) (w : World) : Calls Try.prog 4 #[.agg #[.int .u64 hi, .int .u64 lo], .int .i64 low, .int .i64 high, .int .i64 s, .int .i64 x] w fun e w' => e = .returned (.bool true) ∧ Below w.heap.size w w' := by
  by_cases h1 : s ≤ low
  · skip
    have hk : kindF low high s = 2 := by unfold kindF; first | rw [if_pos (by omega)] | rw [if_neg (by omega), if_pos (by omega)] | rw [if_neg (by omega), if_neg (by omega)]
    cases hm : mayS ⟨hi, lo, 2, s, 5, 6⟩ with
    | true =>
      have HO : Hid (∀ w : World, Calls Try.prog 22 #[.agg #[.int .u64 hi, .int .u64 lo], .int .i64 low, .int .i64 high, .int .i64 s, .int .i64 5, .int .i64 6] w fun e w' => e = .returned (.agg #[.int .u64 hi, .int .u64 lo, .int .i64 2, .int .i64 s, .int .i64 5, .int .i64 6]) ∧ Below w.heap.size w w') := fun w => by
        have h := of_any hi lo low high s 5 6 w
        rw [ofS_yes hk hm] at h
        exact h
      have HM : Hid (∀ w : World, Calls Try.prog 23 #[.agg #[.int .u64 hi, .int .u64 lo, .int .i64 2, .int .i64 s, .int .i64 5, .int .i64 6]] w fun e w' => e = .returned (.bool true) ∧ Below w.heap.size w w') := fun w => by
        have h := refMay22_any ⟨hi, lo, 2, s, 5, 6⟩ w
        rw [hm] at h
        exact h
      have HMY : Hid (∀ w : World, Calls Try.prog 25 #[.agg #[.int .u64 hi, .int .u64 lo, .int .i64 2, .int .i64 s, .int .i64 5, .int .i64 6]] w fun e w' => e = .returned (.bool true) ∧ Below w.heap.size w w') := fun w => by
        have h := may_any ⟨hi, lo, 2, s, 5, 6⟩ w
        rw [hm] at h
        exact h
      have HSY : Hid (∀ w : World, Calls Try.prog 26 #[.agg #[.int .u64 hi, .int .u64 lo, .int .i64 2, .int .i64 s, .int .i64 5, .int .i64 6], .int .i64 x] w fun e w' => e = .returned (.bool (decide (x ≤ s))) ∧ Below w.heap.size w w') := fun w => by
        have h := says_any ⟨hi, lo, 2, s, 5, 6⟩ x w
        rw [show saysS ⟨hi, lo, 2, s, 5, 6⟩ x = decide (x ≤ s) by unfold saysS; first | (simp; done) | (rw [Bool.eq_iff_iff]; simp)] at h
        exact h
      clear hk hm
      go_enter Try.func4, Try.ntmps4
      go_wp2_with fail
      refine (HO.out _).mono ?_
      rintro e w1 ⟨rfl, hb1⟩
      have HB1 := Lib.hid (below_via hb1 ((Below.refl _ w).alloc (Nat.le_refl _) _))
      have HKW := Lib.hid (Blk.after hb1 (Blk.new w 35 #[.int .u64 hi, .int .u64 lo]))
      clear hb1 HO
      obtain ⟨k0, k1⟩ := (HKW.out.alloc (.cells #[.int .u64 hi, .int .u64 lo, .int .i64 2, .int .i64 s, .int .i64 5, .int .i64 6] 38)).two
      have HK11 := Lib.hid ((Blk.new w1 38 #[.int .u64 hi, .int .u64 lo, .int .i64 2, .int .i64 s, .int .i64 5, .int .i64 6]).alloc (.cells #[.int .u64 hi, .int .u64 lo, .int .i64 2, .int .i64 s, .int .i64 5, .int .i64 6] 38))
      have HK14 := Lib.hid (blk_two w1 38 38 #[.int .u64 hi, .int .u64 lo, .int .i64 2, .int .i64 s, .int .i64 5, .int .i64 6] #[.int .u64 hi, .int .u64 lo, .int .i64 2, .int .i64 s, .int .i64 5, .int .i64 6])
      have HB2 := Lib.hid ((HB1.out.alloc HB1.out.size (.cells #[.int .u64 hi, .int .u64 lo, .int .i64 2, .int .i64 s, .int .i64 5, .int .i64 6] 38)).alloc (by rw [World.size_alloc]; have := HB1.out.size; omega) (.cells #[.int .u64 hi, .int .u64 lo, .int .i64 2, .int .i64 s, .int .i64 5, .int .i64 6] 38))
      clear HKW HB1
      go_wp2_with fail
      refine (HM.out _).mono ?_
      rintro e w2 ⟨rfl, hb⟩
      have HB3 := Lib.hid (below_via hb HB2.out)
      have HL11 := Lib.hid (Blk.after hb HK11.out)
      have HL14 := Lib.hid (Blk.after hb HK14.out)
      clear hb HB2 HK11 HK14 HM k0 k1
      go_wp2_with fail
      refine (live22_any _).mono ?_
      rintro e w3 ⟨rfl, hb⟩
      have HB4 := Lib.hid (below_via hb HB3.out)
      have HM11 := Lib.hid (Blk.after hb HL11.out)
      have HM14 := Lib.hid (Blk.after hb HL14.out)
      clear hb HB3 HL11 HL14
      obtain ⟨c0, c1, c2, c3, c4, c5⟩ := HM11.out.six
      obtain ⟨d0, d1, d2, d3, d4, d5⟩ := HM14.out.six
      go_wp2_with fail
      refine (HMY.out _).mono ?_
      rintro e w4 ⟨rfl, hb⟩
      have HB5 := Lib.hid (below_via hb HB4.out)
      have HN11 := Lib.hid (Blk.after hb HM11.out)
      clear hb HB4 HM11 HM14 c0 c1 c2 c3 c4 c5 d0 d1 d2 d3 d4 d5
      obtain ⟨c0, c1, c2, c3, c4, c5⟩ := HN11.out.six
      go_wp2_with fail
      refine (HSY.out _).mono ?_
      rintro e w5 ⟨rfl, hb⟩
      have HB6 := Lib.hid (below_via hb HB5.out)
      clear hb HB5 HN11 c0 c1 c2 c3 c4 c5
      go_wp2
      all_goals go_ret
      all_goals exact ⟨by simp, HB6.out⟩
    | false =>
      have HO : Hid (∀ w : World, Calls Try.prog 22 #[.agg #[.int .u64 hi, .int .u64 lo], .int .i64 low, .int .i64 high, .int .i64 s, .int .i64 5, .int .i64 6] w fun e w' => e = .returned (.agg #[.int .u64 0, .int .u64 0, .int .i64 0, .int .i64 0, .int .i64 0, .int .i64 0]) ∧ Below w.heap.size w w') := fun w => by
        have h := of_any hi lo low high s 5 6 w
        rw [ofS_no hk hm] at h
        exact h
      have HM : Hid (∀ w : World, Calls Try.prog 23 #[.agg #[.int .u64 hi, .int .u64 lo, .int .i64 2, .int .i64 s, .int .i64 5, .int .i64 6]] w fun e w' => e = .returned (.bool false) ∧ Below w.heap.size w w') := fun w => by
        have h := refMay22_any ⟨hi, lo, 2, s, 5, 6⟩ w
        rw [hm] at h
        exact h
      have HMY : Hid (∀ w : World, Calls Try.prog 25 #[.agg #[.int .u64 hi, .int .u64 lo, .int .i64 2, .int .i64 s, .int .i64 5, .int .i64 6]] w fun e w' => e = .returned (.bool false) ∧ Below w.heap.size w w') := fun w => by
        have h := may_any ⟨hi, lo, 2, s, 5, 6⟩ w
        rw [hm] at h
        exact h
      clear hk hm
      go_enter Try.func4, Try.ntmps4
      go_wp2_with fail
      refine (HO.out _).mono ?_
      rintro e w1 ⟨rfl, hb1⟩
      have HB1 := Lib.hid (below_via hb1 ((Below.refl _ w).alloc (Nat.le_refl _) _))
      have HKW := Lib.hid (Blk.after hb1 (Blk.new w 35 #[.int .u64 hi, .int .u64 lo]))
      clear hb1 HO
      obtain ⟨k0, k1⟩ := (HKW.out.alloc (.cells #[.int .u64 0, .int .u64 0, .int .i64 0, .int .i64 0, .int .i64 0, .int .i64 0] 38)).two
      have HK11 := Lib.hid ((Blk.new w1 38 #[.int .u64 0, .int .u64 0, .int .i64 0, .int .i64 0, .int .i64 0, .int .i64 0]).alloc (.cells #[.int .u64 hi, .int .u64 lo, .int .i64 2, .int .i64 s, .int .i64 5, .int .i64 6] 38))
      have HK14 := Lib.hid (blk_two w1 38 38 #[.int .u64 0, .int .u64 0, .int .i64 0, .int .i64 0, .int .i64 0, .int .i64 0] #[.int .u64 hi, .int .u64 lo, .int .i64 2, .int .i64 s, .int .i64 5, .int .i64 6])
      have HB2 := Lib.hid ((HB1.out.alloc HB1.out.size (.cells #[.int .u64 0, .int .u64 0, .int .i64 0, .int .i64 0, .int .i64 0, .int .i64 0] 38)).alloc (by rw [World.size_alloc]; have := HB1.out.size; omega) (.cells #[.int .u64 hi, .int .u64 lo, .int .i64 2, .int .i64 s, .int .i64 5, .int .i64 6] 38))
      clear HKW HB1
      go_wp2_with fail
      refine (HM.out _).mono ?_
      rintro e w2 ⟨rfl, hb⟩
      have HB3 := Lib.hid (below_via hb HB2.out)
      have HL11 := Lib.hid (Blk.after hb HK11.out)
      have HL14 := Lib.hid (Blk.after hb HK14.out)
      clear hb HB2 HK11 HK14 HM k0 k1
      go_wp2_with fail
      refine (live22_any _).mono ?_
      rintro e w3 ⟨rfl, hb⟩
      have HB4 := Lib.hid (below_via hb HB3.out)
      have HM11 := Lib.hid (Blk.after hb HL11.out)
      have HM14 := Lib.hid (Blk.after hb HL14.out)
      clear hb HB3 HL11 HL14
      obtain ⟨c0, c1, c2, c3, c4, c5⟩ := HM11.out.six
      obtain ⟨d0, d1, d2, d3, d4, d5⟩ := HM14.out.six
      go_wp2_with fail
      refine (HMY.out _).mono ?_
      rintro e w4 ⟨rfl, hb⟩
      have HB5 := Lib.hid (below_via hb HB4.out)
      clear hb HB4 HM11 HM14 c0 c1 c2 c3 c4 c5 d0 d1 d2 d3 d4 d5
      go_wp2
      all_goals go_ret
      all_goals exact ⟨by simp, HB5.out⟩
  · by_cases h2 : high ≤ s
    · skip
      have hk : kindF low high s = 1 := by unfold kindF; first | rw [if_pos (by omega)] | rw [if_neg (by omega), if_pos (by omega)] | rw [if_neg (by omega), if_neg (by omega)]
      cases hm : mayS ⟨hi, lo, 1, s, 5, 6⟩ with
      | true =>
        have HO : Hid (∀ w : World, Calls Try.prog 22 #[.agg #[.int .u64 hi, .int .u64 lo], .int .i64 low, .int .i64 high, .int .i64 s, .int .i64 5, .int .i64 6] w fun e w' => e = .returned (.agg #[.int .u64 hi, .int .u64 lo, .int .i64 1, .int .i64 s, .int .i64 5, .int .i64 6]) ∧ Below w.heap.size w w') := fun w => by
          have h := of_any hi lo low high s 5 6 w
          rw [ofS_yes hk hm] at h
          exact h
        have HM : Hid (∀ w : World, Calls Try.prog 23 #[.agg #[.int .u64 hi, .int .u64 lo, .int .i64 1, .int .i64 s, .int .i64 5, .int .i64 6]] w fun e w' => e = .returned (.bool true) ∧ Below w.heap.size w w') := fun w => by
          have h := refMay22_any ⟨hi, lo, 1, s, 5, 6⟩ w
          rw [hm] at h
          exact h
        have HMY : Hid (∀ w : World, Calls Try.prog 25 #[.agg #[.int .u64 hi, .int .u64 lo, .int .i64 1, .int .i64 s, .int .i64 5, .int .i64 6]] w fun e w' => e = .returned (.bool true) ∧ Below w.heap.size w w') := fun w => by
          have h := may_any ⟨hi, lo, 1, s, 5, 6⟩ w
          rw [hm] at h
          exact h
        have HSY : Hid (∀ w : World, Calls Try.prog 26 #[.agg #[.int .u64 hi, .int .u64 lo, .int .i64 1, .int .i64 s, .int .i64 5, .int .i64 6], .int .i64 x] w fun e w' => e = .returned (.bool (decide (s ≤ x))) ∧ Below w.heap.size w w') := fun w => by
          have h := says_any ⟨hi, lo, 1, s, 5, 6⟩ x w
          rw [show saysS ⟨hi, lo, 1, s, 5, 6⟩ x = decide (s ≤ x) by unfold saysS; first | (simp; done) | (rw [Bool.eq_iff_iff]; simp)] at h
          exact h
        clear hk hm
        go_enter Try.func4, Try.ntmps4
        go_wp2_with fail
        refine (HO.out _).mono ?_
        rintro e w1 ⟨rfl, hb1⟩
        have HB1 := Lib.hid (below_via hb1 ((Below.refl _ w).alloc (Nat.le_refl _) _))
        have HKW := Lib.hid (Blk.after hb1 (Blk.new w 35 #[.int .u64 hi, .int .u64 lo]))
        clear hb1 HO
        obtain ⟨k0, k1⟩ := (HKW.out.alloc (.cells #[.int .u64 hi, .int .u64 lo, .int .i64 1, .int .i64 s, .int .i64 5, .int .i64 6] 38)).two
        have HK11 := Lib.hid ((Blk.new w1 38 #[.int .u64 hi, .int .u64 lo, .int .i64 1, .int .i64 s, .int .i64 5, .int .i64 6]).alloc (.cells #[.int .u64 hi, .int .u64 lo, .int .i64 1, .int .i64 s, .int .i64 5, .int .i64 6] 38))
        have HK14 := Lib.hid (blk_two w1 38 38 #[.int .u64 hi, .int .u64 lo, .int .i64 1, .int .i64 s, .int .i64 5, .int .i64 6] #[.int .u64 hi, .int .u64 lo, .int .i64 1, .int .i64 s, .int .i64 5, .int .i64 6])
        have HB2 := Lib.hid ((HB1.out.alloc HB1.out.size (.cells #[.int .u64 hi, .int .u64 lo, .int .i64 1, .int .i64 s, .int .i64 5, .int .i64 6] 38)).alloc (by rw [World.size_alloc]; have := HB1.out.size; omega) (.cells #[.int .u64 hi, .int .u64 lo, .int .i64 1, .int .i64 s, .int .i64 5, .int .i64 6] 38))
        clear HKW HB1
        go_wp2_with fail
        refine (HM.out _).mono ?_
        rintro e w2 ⟨rfl, hb⟩
        have HB3 := Lib.hid (below_via hb HB2.out)
        have HL11 := Lib.hid (Blk.after hb HK11.out)
        have HL14 := Lib.hid (Blk.after hb HK14.out)
        clear hb HB2 HK11 HK14 HM k0 k1
        go_wp2_with fail
        refine (live22_any _).mono ?_
        rintro e w3 ⟨rfl, hb⟩
        have HB4 := Lib.hid (below_via hb HB3.out)
        have HM11 := Lib.hid (Blk.after hb HL11.out)
        have HM14 := Lib.hid (Blk.after hb HL14.out)
        clear hb HB3 HL11 HL14
        obtain ⟨c0, c1, c2, c3, c4, c5⟩ := HM11.out.six
        obtain ⟨d0, d1, d2, d3, d4, d5⟩ := HM14.out.six
        go_wp2_with fail
        refine (HMY.out _).mono ?_
        rintro e w4 ⟨rfl, hb⟩
        have HB5 := Lib.hid (below_via hb HB4.out)
        have HN11 := Lib.hid (Blk.after hb HM11.out)
        clear hb HB4 HM11 HM14 c0 c1 c2 c3 c4 c5 d0 d1 d2 d3 d4 d5
        obtain ⟨c0, c1, c2, c3, c4, c5⟩ := HN11.out.six
        go_wp2_with fail
        refine (HSY.out _).mono ?_
        rintro e w5 ⟨rfl, hb⟩
        have HB6 := Lib.hid (below_via hb HB5.out)
        clear hb HB5 HN11 c0 c1 c2 c3 c4 c5
        go_wp2
        all_goals go_ret
        all_goals exact ⟨by simp, HB6.out⟩
      | false =>
        have HO : Hid (∀ w : World, Calls Try.prog 22 #[.agg #[.int .u64 hi, .int .u64 lo], .int .i64 low, .int .i64 high, .int .i64 s, .int .i64 5, .int .i64 6] w fun e w' => e = .returned (.agg #[.int .u64 0, .int .u64 0, .int .i64 0, .int .i64 0, .int .i64 0, .int .i64 0]) ∧ Below w.heap.size w w') := fun w => by
          have h := of_any hi lo low high s 5 6 w
          rw [ofS_no hk hm] at h
          exact h
        have HM : Hid (∀ w : World, Calls Try.prog 23 #[.agg #[.int .u64 hi, .int .u64 lo, .int .i64 1, .int .i64 s, .int .i64 5, .int .i64 6]] w fun e w' => e = .returned (.bool false) ∧ Below w.heap.size w w') := fun w => by
          have h := refMay22_any ⟨hi, lo, 1, s, 5, 6⟩ w
          rw [hm] at h
          exact h
        have HMY : Hid (∀ w : World, Calls Try.prog 25 #[.agg #[.int .u64 hi, .int .u64 lo, .int .i64 1, .int .i64 s, .int .i64 5, .int .i64 6]] w fun e w' => e = .returned (.bool false) ∧ Below w.heap.size w w') := fun w => by
          have h := may_any ⟨hi, lo, 1, s, 5, 6⟩ w
          rw [hm] at h
          exact h
        clear hk hm
        go_enter Try.func4, Try.ntmps4
        go_wp2_with fail
        refine (HO.out _).mono ?_
        rintro e w1 ⟨rfl, hb1⟩
        have HB1 := Lib.hid (below_via hb1 ((Below.refl _ w).alloc (Nat.le_refl _) _))
        have HKW := Lib.hid (Blk.after hb1 (Blk.new w 35 #[.int .u64 hi, .int .u64 lo]))
        clear hb1 HO
        obtain ⟨k0, k1⟩ := (HKW.out.alloc (.cells #[.int .u64 0, .int .u64 0, .int .i64 0, .int .i64 0, .int .i64 0, .int .i64 0] 38)).two
        have HK11 := Lib.hid ((Blk.new w1 38 #[.int .u64 0, .int .u64 0, .int .i64 0, .int .i64 0, .int .i64 0, .int .i64 0]).alloc (.cells #[.int .u64 hi, .int .u64 lo, .int .i64 1, .int .i64 s, .int .i64 5, .int .i64 6] 38))
        have HK14 := Lib.hid (blk_two w1 38 38 #[.int .u64 0, .int .u64 0, .int .i64 0, .int .i64 0, .int .i64 0, .int .i64 0] #[.int .u64 hi, .int .u64 lo, .int .i64 1, .int .i64 s, .int .i64 5, .int .i64 6])
        have HB2 := Lib.hid ((HB1.out.alloc HB1.out.size (.cells #[.int .u64 0, .int .u64 0, .int .i64 0, .int .i64 0, .int .i64 0, .int .i64 0] 38)).alloc (by rw [World.size_alloc]; have := HB1.out.size; omega) (.cells #[.int .u64 hi, .int .u64 lo, .int .i64 1, .int .i64 s, .int .i64 5, .int .i64 6] 38))
        clear HKW HB1
        go_wp2_with fail
        refine (HM.out _).mono ?_
        rintro e w2 ⟨rfl, hb⟩
        have HB3 := Lib.hid (below_via hb HB2.out)
        have HL11 := Lib.hid (Blk.after hb HK11.out)
        have HL14 := Lib.hid (Blk.after hb HK14.out)
        clear hb HB2 HK11 HK14 HM k0 k1
        go_wp2_with fail
        refine (live22_any _).mono ?_
        rintro e w3 ⟨rfl, hb⟩
        have HB4 := Lib.hid (below_via hb HB3.out)
        have HM11 := Lib.hid (Blk.after hb HL11.out)
        have HM14 := Lib.hid (Blk.after hb HL14.out)
        clear hb HB3 HL11 HL14
        obtain ⟨c0, c1, c2, c3, c4, c5⟩ := HM11.out.six
        obtain ⟨d0, d1, d2, d3, d4, d5⟩ := HM14.out.six
        go_wp2_with fail
        refine (HMY.out _).mono ?_
        rintro e w4 ⟨rfl, hb⟩
        have HB5 := Lib.hid (below_via hb HB4.out)
        clear hb HB4 HM11 HM14 c0 c1 c2 c3 c4 c5 d0 d1 d2 d3 d4 d5
        go_wp2
        all_goals go_ret
        all_goals exact ⟨by simp, HB5.out⟩
    · skip
      have hk : kindF low high s = 3 := by unfold kindF; first | rw [if_pos (by omega)] | rw [if_neg (by omega), if_pos (by omega)] | rw [if_neg (by omega), if_neg (by omega)]
      cases hm : mayS ⟨hi, lo, 3, s, 5, 6⟩ with
      | true =>
        have HO : Hid (∀ w : World, Calls Try.prog 22 #[.agg #[.int .u64 hi, .int .u64 lo], .int .i64 low, .int .i64 high, .int .i64 s, .int .i64 5, .int .i64 6] w fun e w' => e = .returned (.agg #[.int .u64 hi, .int .u64 lo, .int .i64 3, .int .i64 s, .int .i64 5, .int .i64 6]) ∧ Below w.heap.size w w') := fun w => by
          have h := of_any hi lo low high s 5 6 w
          rw [ofS_yes hk hm] at h
          exact h
        have HM : Hid (∀ w : World, Calls Try.prog 23 #[.agg #[.int .u64 hi, .int .u64 lo, .int .i64 3, .int .i64 s, .int .i64 5, .int .i64 6]] w fun e w' => e = .returned (.bool true) ∧ Below w.heap.size w w') := fun w => by
          have h := refMay22_any ⟨hi, lo, 3, s, 5, 6⟩ w
          rw [hm] at h
          exact h
        have HMY : Hid (∀ w : World, Calls Try.prog 25 #[.agg #[.int .u64 hi, .int .u64 lo, .int .i64 3, .int .i64 s, .int .i64 5, .int .i64 6]] w fun e w' => e = .returned (.bool true) ∧ Below w.heap.size w w') := fun w => by
          have h := may_any ⟨hi, lo, 3, s, 5, 6⟩ w
          rw [hm] at h
          exact h
        have HSY : Hid (∀ w : World, Calls Try.prog 26 #[.agg #[.int .u64 hi, .int .u64 lo, .int .i64 3, .int .i64 s, .int .i64 5, .int .i64 6], .int .i64 x] w fun e w' => e = .returned (.bool ((x == s))) ∧ Below w.heap.size w w') := fun w => by
          have h := says_any ⟨hi, lo, 3, s, 5, 6⟩ x w
          rw [show saysS ⟨hi, lo, 3, s, 5, 6⟩ x = (x == s) by unfold saysS; first | (simp; done) | (rw [Bool.eq_iff_iff]; simp)] at h
          exact h
        clear hk hm
        go_enter Try.func4, Try.ntmps4
        go_wp2_with fail
        refine (HO.out _).mono ?_
        rintro e w1 ⟨rfl, hb1⟩
        have HB1 := Lib.hid (below_via hb1 ((Below.refl _ w).alloc (Nat.le_refl _) _))
        have HKW := Lib.hid (Blk.after hb1 (Blk.new w 35 #[.int .u64 hi, .int .u64 lo]))
        clear hb1 HO
        obtain ⟨k0, k1⟩ := (HKW.out.alloc (.cells #[.int .u64 hi, .int .u64 lo, .int .i64 3, .int .i64 s, .int .i64 5, .int .i64 6] 38)).two
        have HK11 := Lib.hid ((Blk.new w1 38 #[.int .u64 hi, .int .u64 lo, .int .i64 3, .int .i64 s, .int .i64 5, .int .i64 6]).alloc (.cells #[.int .u64 hi, .int .u64 lo, .int .i64 3, .int .i64 s, .int .i64 5, .int .i64 6] 38))
        have HK14 := Lib.hid (blk_two w1 38 38 #[.int .u64 hi, .int .u64 lo, .int .i64 3, .int .i64 s, .int .i64 5, .int .i64 6] #[.int .u64 hi, .int .u64 lo, .int .i64 3, .int .i64 s, .int .i64 5, .int .i64 6])
        have HB2 := Lib.hid ((HB1.out.alloc HB1.out.size (.cells #[.int .u64 hi, .int .u64 lo, .int .i64 3, .int .i64 s, .int .i64 5, .int .i64 6] 38)).alloc (by rw [World.size_alloc]; have := HB1.out.size; omega) (.cells #[.int .u64 hi, .int .u64 lo, .int .i64 3, .int .i64 s, .int .i64 5, .int .i64 6] 38))
        clear HKW HB1
        go_wp2_with fail
        refine (HM.out _).mono ?_
        rintro e w2 ⟨rfl, hb⟩
        have HB3 := Lib.hid (below_via hb HB2.out)
        have HL11 := Lib.hid (Blk.after hb HK11.out)
        have HL14 := Lib.hid (Blk.after hb HK14.out)
        clear hb HB2 HK11 HK14 HM k0 k1
        go_wp2_with fail
        refine (live22_any _).mono ?_
        rintro e w3 ⟨rfl, hb⟩
        have HB4 := Lib.hid (below_via hb HB3.out)
        have HM11 := Lib.hid (Blk.after hb HL11.out)
        have HM14 := Lib.hid (Blk.after hb HL14.out)
        clear hb HB3 HL11 HL14
        obtain ⟨c0, c1, c2, c3, c4, c5⟩ := HM11.out.six
        obtain ⟨d0, d1, d2, d3, d4, d5⟩ := HM14.out.six
        go_wp2_with fail
        refine (HMY.out _).mono ?_
        rintro e w4 ⟨rfl, hb⟩
        have HB5 := Lib.hid (below_via hb HB4.out)
        have HN11 := Lib.hid (Blk.after hb HM11.out)
        clear hb HB4 HM11 HM14 c0 c1 c2 c3 c4 c5 d0 d1 d2 d3 d4 d5
        obtain ⟨c0, c1, c2, c3, c4, c5⟩ := HN11.out.six
        go_wp2_with fail
        refine (HSY.out _).mono ?_
        rintro e w5 ⟨rfl, hb⟩
        have HB6 := Lib.hid (below_via hb HB5.out)
        clear hb HB5 HN11 c0 c1 c2 c3 c4 c5
        go_wp2
        all_goals go_ret
        all_goals exact ⟨by simp, HB6.out⟩
      | false =>
        have HO : Hid (∀ w : World, Calls Try.prog 22 #[.agg #[.int .u64 hi, .int .u64 lo], .int .i64 low, .int .i64 high, .int .i64 s, .int .i64 5, .int .i64 6] w fun e w' => e = .returned (.agg #[.int .u64 0, .int .u64 0, .int .i64 0, .int .i64 0, .int .i64 0, .int .i64 0]) ∧ Below w.heap.size w w') := fun w => by
          have h := of_any hi lo low high s 5 6 w
          rw [ofS_no hk hm] at h
          exact h
        have HM : Hid (∀ w : World, Calls Try.prog 23 #[.agg #[.int .u64 hi, .int .u64 lo, .int .i64 3, .int .i64 s, .int .i64 5, .int .i64 6]] w fun e w' => e = .returned (.bool false) ∧ Below w.heap.size w w') := fun w => by
          have h := refMay22_any ⟨hi, lo, 3, s, 5, 6⟩ w
          rw [hm] at h
          exact h
        have HMY : Hid (∀ w : World, Calls Try.prog 25 #[.agg #[.int .u64 hi, .int .u64 lo, .int .i64 3, .int .i64 s, .int .i64 5, .int .i64 6]] w fun e w' => e = .returned (.bool false) ∧ Below w.heap.size w w') := fun w => by
          have h := may_any ⟨hi, lo, 3, s, 5, 6⟩ w
          rw [hm] at h
          exact h
        clear hk hm
        go_enter Try.func4, Try.ntmps4
        go_wp2_with fail
        refine (HO.out _).mono ?_
        rintro e w1 ⟨rfl, hb1⟩
        have HB1 := Lib.hid (below_via hb1 ((Below.refl _ w).alloc (Nat.le_refl _) _))
        have HKW := Lib.hid (Blk.after hb1 (Blk.new w 35 #[.int .u64 hi, .int .u64 lo]))
        clear hb1 HO
        obtain ⟨k0, k1⟩ := (HKW.out.alloc (.cells #[.int .u64 0, .int .u64 0, .int .i64 0, .int .i64 0, .int .i64 0, .int .i64 0] 38)).two
        have HK11 := Lib.hid ((Blk.new w1 38 #[.int .u64 0, .int .u64 0, .int .i64 0, .int .i64 0, .int .i64 0, .int .i64 0]).alloc (.cells #[.int .u64 hi, .int .u64 lo, .int .i64 3, .int .i64 s, .int .i64 5, .int .i64 6] 38))
        have HK14 := Lib.hid (blk_two w1 38 38 #[.int .u64 0, .int .u64 0, .int .i64 0, .int .i64 0, .int .i64 0, .int .i64 0] #[.int .u64 hi, .int .u64 lo, .int .i64 3, .int .i64 s, .int .i64 5, .int .i64 6])
        have HB2 := Lib.hid ((HB1.out.alloc HB1.out.size (.cells #[.int .u64 0, .int .u64 0, .int .i64 0, .int .i64 0, .int .i64 0, .int .i64 0] 38)).alloc (by rw [World.size_alloc]; have := HB1.out.size; omega) (.cells #[.int .u64 hi, .int .u64 lo, .int .i64 3, .int .i64 s, .int .i64 5, .int .i64 6] 38))
        clear HKW HB1
        go_wp2_with fail
        refine (HM.out _).mono ?_
        rintro e w2 ⟨rfl, hb⟩
        have HB3 := Lib.hid (below_via hb HB2.out)
        have HL11 := Lib.hid (Blk.after hb HK11.out)
        have HL14 := Lib.hid (Blk.after hb HK14.out)
        clear hb HB2 HK11 HK14 HM k0 k1
        go_wp2_with fail
        refine (live22_any _).mono ?_
        rintro e w3 ⟨rfl, hb⟩
        have HB4 := Lib.hid (below_via hb HB3.out)
        have HM11 := Lib.hid (Blk.after hb HL11.out)
        have HM14 := Lib.hid (Blk.after hb HL14.out)
        clear hb HB3 HL11 HL14
        obtain ⟨c0, c1, c2, c3, c4, c5⟩ := HM11.out.six
        obtain ⟨d0, d1, d2, d3, d4, d5⟩ := HM14.out.six
        go_wp2_with fail
        refine (HMY.out _).mono ?_
        rintro e w4 ⟨rfl, hb⟩
        have HB5 := Lib.hid (below_via hb HB4.out)
        clear hb HB4 HM11 HM14 c0 c1 c2 c3 c4 c5 d0 d1 d2 d3 d4 d5
        go_wp2
        all_goals go_ret
        all_goals exact ⟨by simp, HB5.out⟩
end Go.Proofs.Ytlndlcdamimbdaa
