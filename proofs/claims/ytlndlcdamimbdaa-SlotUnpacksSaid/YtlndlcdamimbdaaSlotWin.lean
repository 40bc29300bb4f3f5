/- The walks of slot's Window, Says, and of the reference's Says. -/
import Derived.Test.YtlndlcdamimbdaaSlot
namespace Go.Proofs.Ytlndlcdamimbdaa
open Go.RowKit

def winLow (s : Sl) (low : Int) : Int := if s.kind = 3 ∨ s.kind = 1 then (if low < s.score then s.score else low) else low
def winHigh (s : Sl) (high : Int) : Int := if s.kind = 3 ∨ s.kind = 2 then (if s.score < high then s.score else high) else high
theorem ret_two {a b c d : Int} (h1 : a = c) (h2 : b = d) : Ending.returned (.tuple #[.int .i64 a, .int .i64 b]) = Ending.returned (.tuple #[.int .i64 c, .int .i64 d]) := by rw [h1, h2]

set_option maxHeartbeats 800000 in
theorem window_any (s : Sl) (low high : Int) (w : World) : Calls Try.prog 27 #[s.val, .int .i64 low, .int .i64 high] w fun e w' => e = .returned (.tuple #[.int .i64 (winLow s low), .int .i64 (winHigh s high)]) ∧ Below w.heap.size w w' := by
  obtain ⟨hi, lo, kind, score, work, age⟩ := s
  have hb := (Below.refl w.heap.size w).alloc (Nat.le_refl _) (.cells #[.int .u64 hi, .int .u64 lo, .int .i64 kind, .int .i64 score, .int .i64 work, .int .i64 age] 38)
  have HB := Lib.hid hb
  clear hb
  by_cases h3 : kind = 3
  · subst h3
    go_enter Try.func27, Try.ntmps27
    go_wp2
    all_goals go_ret2
    all_goals refine ⟨ret_two ?_ ?_, HB.out⟩
    all_goals simp [winLow, winHigh]
    all_goals omega
  · have h3' : (kind == 3) = false := beq_eq_false_iff_ne.2 h3
    by_cases h2 : kind = 2
    · subst h2
      go_enter Try.func27, Try.ntmps27
      go_wp2
      all_goals go_ret2
      all_goals refine ⟨ret_two ?_ ?_, HB.out⟩
      all_goals simp [winLow, winHigh]
      all_goals omega
    · have h2' : (kind == 2) = false := beq_eq_false_iff_ne.2 h2
      by_cases h1 : kind = 1
      · subst h1
        go_enter Try.func27, Try.ntmps27
        go_wp2
        all_goals go_ret2
        all_goals refine ⟨ret_two ?_ ?_, HB.out⟩
        all_goals simp [winLow, winHigh]
        all_goals omega
      · have h1' : (kind == 1) = false := beq_eq_false_iff_ne.2 h1
        go_enter Try.func27, Try.ntmps27
        go_wp2
        all_goals go_ret2
        all_goals refine ⟨ret_two ?_ ?_, HB.out⟩
        all_goals simp [winLow, winHigh, *]

/-- Is a score as it says? -/
def saysS (s : Sl) (x : Int) : Bool := decide ((s.kind = 3 → x = s.score) ∧ (s.kind = 2 → x ≤ s.score) ∧ (s.kind = 1 → s.score ≤ x))
theorem says_iff (s : Sl) (x : Int) : (winLow s x = x ∧ winHigh s x = x) ↔ ((s.kind = 3 → x = s.score) ∧ (s.kind = 2 → x ≤ s.score) ∧ (s.kind = 1 → s.score ≤ x)) := by
  unfold winLow winHigh
  by_cases h3 : s.kind = 3
  · simp [h3]; omega
  · by_cases h2 : s.kind = 2
    · simp [h2]; omega
    · by_cases h1 : s.kind = 1
      · simp [h1]; omega
      · simp [h1, h2, h3]

set_option maxHeartbeats 800000 in
theorem says_any (s : Sl) (x : Int) (w : World) : Calls Try.prog 26 #[s.val, .int .i64 x] w fun e w' => e = .returned (.bool (saysS s x)) ∧ Below w.heap.size w w' := by
  have HW := Lib.hid (window_any s x x)
  have HI := Lib.hid (says_iff s x)
  by_cases h1 : winLow s x = x
  · have g1 : (winLow s x == x) = true := beq_iff_eq.2 h1
    by_cases h2 : winHigh s x = x
    · have g2 : (winHigh s x == x) = true := beq_iff_eq.2 h2
      have HS : Hid (saysS s x = true) := decide_eq_true (HI.out.1 ⟨h1, h2⟩)
      clear h1 h2 HI
      obtain ⟨hi, lo, kind, score, work, age⟩ := s
      go_enter Try.func26, Try.ntmps26
      go_wp2_with fail
      refine (HW.out _).mono ?_
      rintro e w1 ⟨rfl, hb⟩
      have HB := Lib.hid (((Below.refl w.heap.size w).alloc (Nat.le_refl _) _).trans (hb.mono (by simp)))
      clear hb
      go_wp2
      go_ret
      exact ⟨by rw [HS.out]; rfl, HB.out⟩
    · have g2 : (winHigh s x == x) = false := beq_eq_false_iff_ne.2 h2
      have HS : Hid (saysS s x = false) := decide_eq_false (fun h => h2 (HI.out.2 h).2)
      clear h1 h2 HI
      obtain ⟨hi, lo, kind, score, work, age⟩ := s
      go_enter Try.func26, Try.ntmps26
      go_wp2_with fail
      refine (HW.out _).mono ?_
      rintro e w1 ⟨rfl, hb⟩
      have HB := Lib.hid (((Below.refl w.heap.size w).alloc (Nat.le_refl _) _).trans (hb.mono (by simp)))
      clear hb
      go_wp2
      go_ret
      exact ⟨by rw [HS.out]; rfl, HB.out⟩
  · have g1 : (winLow s x == x) = false := beq_eq_false_iff_ne.2 h1
    have HS : Hid (saysS s x = false) := decide_eq_false (fun h => h1 (HI.out.2 h).1)
    clear h1 HI
    obtain ⟨hi, lo, kind, score, work, age⟩ := s
    go_enter Try.func26, Try.ntmps26
    go_wp2_with fail
    refine (HW.out _).mono ?_
    rintro e w1 ⟨rfl, hb⟩
    have HB := Lib.hid (((Below.refl w.heap.size w).alloc (Nat.le_refl _) _).trans (hb.mono (by simp)))
    clear hb
    go_wp2
    go_ret
    exact ⟨by rw [HS.out]; rfl, HB.out⟩

set_option maxHeartbeats 800000 in
theorem refSays_any (s : Sl) (x : Int) (w : World) : Calls Try.prog 28 #[s.val, .int .i64 x] w fun e w' => e = .returned (.bool (saysS s x)) ∧ Below w.heap.size w w' := by
  obtain ⟨hi, lo, kind, score, work, age⟩ := s
  by_cases h1 : kind = 1
  · subst h1
    go_enter Try.func28, Try.ntmps28
    go_wp2
    all_goals go_ret
    all_goals refine ⟨?_, (Below.refl _ w).alloc (Nat.le_refl _) _⟩
    all_goals first | exact ret_eq (decide_eq_decide.2 (by (try dsimp only); omega))
  · have h1' : (kind == 1) = false := beq_eq_false_iff_ne.2 h1
    by_cases h2 : kind = 2
    · subst h2
      go_enter Try.func28, Try.ntmps28
      go_wp2
      all_goals go_ret
      all_goals refine ⟨?_, (Below.refl _ w).alloc (Nat.le_refl _) _⟩
      all_goals first | exact ret_eq (decide_eq_decide.2 (by (try dsimp only); omega))
    · have h2' : (kind == 2) = false := beq_eq_false_iff_ne.2 h2
      by_cases h3 : kind = 3
      · subst h3
        have E : Hid ((x == score) = saysS ⟨hi, lo, 3, score, work, age⟩ x) := by
          show (x == score) = _
          rw [Bool.eq_iff_iff]
          unfold saysS
          simp
        go_enter Try.func28, Try.ntmps28
        go_wp2
        go_ret
        exact ⟨by rw [← E.out]; rfl, (Below.refl _ w).alloc (Nat.le_refl _) _⟩
      · have h3' : (kind == 3) = false := beq_eq_false_iff_ne.2 h3
        have E : Hid (saysS ⟨hi, lo, kind, score, work, age⟩ x = true) := decide_eq_true ⟨fun h => absurd h h3, fun h => absurd h h2, fun h => absurd h h1⟩
        clear h1 h2 h3
        go_enter Try.func28, Try.ntmps28
        go_wp2
        go_ret
        exact ⟨by rw [E.out]; rfl, (Below.refl _ w).alloc (Nat.le_refl _) _⟩
end Go.Proofs.Ytlndlcdamimbdaa
