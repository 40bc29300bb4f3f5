/- The walks of slot: May, Of, Window, Says; of the reference's May, Says. -/
import Derived.Test.YtlndlcdamimbdaaBase
import Derived.Deep.Light
namespace Go.Proofs.Ytlndlcdamimbdaa
open Go.RowKit

/-- A slot's six numbers. -/
structure Sl where
  hi : Nat
  lo : Nat
  kind : Int
  score : Int
  work : Int
  age : Int
abbrev Sl.val (s : Sl) : Value := .agg #[.int .u64 s.hi, .int .u64 s.lo, .int .i64 s.kind, .int .i64 s.score, .int .i64 s.work, .int .i64 s.age]
/-- May it be? -/
def mayS (s : Sl) : Bool := decide ((s.kind = 0 ∧ s.hi = 0 ∧ s.lo = 0 ∧ s.score = 0 ∧ s.work = 0 ∧ s.age = 0) ∨ (1 ≤ s.kind ∧ s.kind ≤ 3 ∧ -32 ≤ s.score ∧ s.score ≤ 32 ∧ 0 ≤ s.work ∧ s.work < 2147483648 ∧ 0 ≤ s.age ∧ s.age < 256 ∧ s.hi < 256))

theorem ret_true {b : Bool} (h : b = true) : Ending.returned (.bool true) = Ending.returned (.bool b) := by rw [h]
theorem ret_false {b : Bool} (h : b = false) : Ending.returned (.bool false) = Ending.returned (.bool b) := by rw [h]
theorem ret_eq {a b : Bool} (h : a = b) : Ending.returned (.bool a) = Ending.returned (.bool b) := by rw [h]

set_option maxRecDepth 100000 in
set_option maxHeartbeats 1600000 in
theorem may_any (s : Sl) (w : World) : Calls Try.prog 25 #[s.val] w fun e w' => e = .returned (.bool (mayS s)) ∧ Below w.heap.size w w' := by
  obtain ⟨hi, lo, kind, score, work, age⟩ := s
  by_cases h : kind = 0
  · subst h
    go_enter Try.func25, Try.ntmps25
    go_wp2
    all_goals go_ret
    all_goals refine ⟨?_, (Below.refl _ w).alloc (Nat.le_refl _) _⟩
    all_goals first | exact ret_true (decide_eq_true (by (try dsimp only); omega)) | exact ret_false (decide_eq_false (by (try dsimp only); omega)) | exact ret_eq (decide_eq_decide.2 (by (try dsimp only); omega))
  · have h0 : (kind == 0) = false := beq_eq_false_iff_ne.2 h
    go_enter Try.func25, Try.ntmps25
    go_wp2
    all_goals go_ret
    all_goals refine ⟨?_, (Below.refl _ w).alloc (Nat.le_refl _) _⟩
    all_goals first | exact ret_true (decide_eq_true (by (try dsimp only); omega)) | exact ret_false (decide_eq_false (by (try dsimp only); omega)) | exact ret_eq (decide_eq_decide.2 (by (try dsimp only); omega))

set_option maxRecDepth 100000 in
set_option maxHeartbeats 1600000 in
theorem refMay22_any (s : Sl) (w : World) : Calls Try.prog 23 #[s.val] w fun e w' => e = .returned (.bool (mayS s)) ∧ Below w.heap.size w w' := by
  obtain ⟨hi, lo, kind, score, work, age⟩ := s
  by_cases h : kind = 0
  · subst h
    go_enter Try.func23, Try.ntmps23
    go_wp2
    all_goals go_ret
    all_goals refine ⟨?_, ((Below.refl _ w).alloc (Nat.le_refl _) _).alloc (by simp) _⟩
    all_goals first | exact ret_true (decide_eq_true (by (try dsimp only); omega)) | exact ret_false (decide_eq_false (by (try dsimp only); omega)) | exact ret_eq (decide_eq_decide.2 (by (try dsimp only); omega))
  · have h0 : (kind == 0) = false := beq_eq_false_iff_ne.2 h
    by_cases h1 : kind = 1
    · subst h1
      go_enter Try.func23, Try.ntmps23
      go_wp2
      all_goals go_ret
      all_goals refine ⟨?_, ((Below.refl _ w).alloc (Nat.le_refl _) _).alloc (by simp) _⟩
      all_goals first | exact ret_true (decide_eq_true (by (try dsimp only); omega)) | exact ret_false (decide_eq_false (by (try dsimp only); omega)) | exact ret_eq (decide_eq_decide.2 (by (try dsimp only); omega))
    · have h1' : (kind == 1) = false := beq_eq_false_iff_ne.2 h1
      by_cases h2 : kind = 2
      · subst h2
        go_enter Try.func23, Try.ntmps23
        go_wp2
        all_goals go_ret
        all_goals refine ⟨?_, ((Below.refl _ w).alloc (Nat.le_refl _) _).alloc (by simp) _⟩
        all_goals first | exact ret_true (decide_eq_true (by (try dsimp only); omega)) | exact ret_false (decide_eq_false (by (try dsimp only); omega)) | exact ret_eq (decide_eq_decide.2 (by (try dsimp only); omega))
      · have h2' : (kind == 2) = false := beq_eq_false_iff_ne.2 h2
        by_cases h3 : kind = 3
        · subst h3
          go_enter Try.func23, Try.ntmps23
          go_wp2
          all_goals go_ret
          all_goals refine ⟨?_, ((Below.refl _ w).alloc (Nat.le_refl _) _).alloc (by simp) _⟩
          all_goals first | exact ret_true (decide_eq_true (by (try dsimp only); omega)) | exact ret_false (decide_eq_false (by (try dsimp only); omega)) | exact ret_eq (decide_eq_decide.2 (by (try dsimp only); omega))
        · have h3' : (kind == 3) = false := beq_eq_false_iff_ne.2 h3
          go_enter Try.func23, Try.ntmps23
          go_wp2
          all_goals go_ret
          all_goals refine ⟨?_, ((Below.refl _ w).alloc (Nat.le_refl _) _).alloc (by simp) _⟩
          all_goals first | exact ret_true (decide_eq_true (by (try dsimp only); omega)) | exact ret_false (decide_eq_false (by (try dsimp only); omega)) | exact ret_eq (decide_eq_decide.2 (by (try dsimp only); omega))
end Go.Proofs.Ytlndlcdamimbdaa
