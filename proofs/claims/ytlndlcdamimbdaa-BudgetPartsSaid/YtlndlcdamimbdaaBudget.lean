/- The walks of budget: May, New, Take, Left, Spent, Part; of the reference's May, Left, Less. -/
import Derived.Test.YtlndlcdamimbdaaBase
import Derived.Lib.SmallJoins
namespace Go.Proofs.Ytlndlcdamimbdaa
open Go.RowKit

/-- May there be such a budget? -/
def mayB (n : Int) : Bool := decide (-1 ≤ n ∧ n ≤ 4611686018427387904)

set_option maxHeartbeats 400000 in
theorem may_any (n : Int) (w : World) : Calls Try.prog 16 #[.int .i64 n] w fun e w' => e = .returned (.bool (mayB n)) ∧ w' = w := by
  by_cases h0 : n = -1
  · subst h0
    have E : Hid (mayB (-1) = true) := decide_eq_true (by decide)
    go_enter Try.func16, Try.ntmps16
    go_wp2
    go_ret
    exact ⟨by rw [E.out]; rfl, rfl⟩
  · have hd : (n == -1) = false := beq_eq_false_iff_ne.2 h0
    by_cases h1 : 0 ≤ n
    · by_cases h2 : n ≤ 4611686018427387904
      · have E : Hid (mayB n = true) := decide_eq_true ⟨by omega, h2⟩
        go_enter Try.func16, Try.ntmps16
        go_wp2
        go_ret
        exact ⟨by rw [E.out]; rfl, rfl⟩
      · have E : Hid (mayB n = false) := decide_eq_false (fun h => h2 h.2)
        go_enter Try.func16, Try.ntmps16
        go_wp2
        go_ret
        exact ⟨by rw [E.out]; rfl, rfl⟩
    · have E : Hid (mayB n = false) := decide_eq_false (fun h => by omega)
      go_enter Try.func16, Try.ntmps16
      go_wp2
      go_ret
      exact ⟨by rw [E.out]; rfl, rfl⟩
set_option maxHeartbeats 400000 in
theorem refMay_any (n : Int) (w : World) : Calls Try.prog 15 #[.int .i64 n] w fun e w' => e = .returned (.bool (mayB n)) ∧ w' = w := by
  by_cases h1 : -1 ≤ n
  · by_cases h2 : n ≤ 4611686018427387904
    · have E : Hid (mayB n = true) := decide_eq_true ⟨h1, h2⟩
      go_enter Try.func15, Try.ntmps15
      go_wp2
      go_ret
      exact ⟨by rw [E.out]; rfl, rfl⟩
    · have E : Hid (mayB n = false) := decide_eq_false (fun h => h2 h.2)
      go_enter Try.func15, Try.ntmps15
      go_wp2
      go_ret
      exact ⟨by rw [E.out]; rfl, rfl⟩
  · have E : Hid (mayB n = false) := decide_eq_false (fun h => h1 h.1)
    go_enter Try.func15, Try.ntmps15
    go_wp2
    go_ret
    exact ⟨by rw [E.out]; rfl, rfl⟩

/-- A budget lies in block b: what is left, what was spent, what it is a part of. -/
def Bud (w : World) (b : Nat) (left spent : Int) (whole : Option Addr) : Prop := w.heap[b]? = some (.cells #[.int .i64 left, .int .i64 spent, .pointer whole] 75 (0, 0))
theorem Bud.c0 {w : World} {b : Nat} {left spent : Int} {whole : Option Addr} (h : Bud w b left spent whole) : w.cell? ⟨b, 0, none⟩ = some (.int .i64 left) := by
  unfold Bud at h; simp [World.cell?, h]
theorem Bud.c1 {w : World} {b : Nat} {left spent : Int} {whole : Option Addr} (h : Bud w b left spent whole) : w.cell? ⟨b, 1, none⟩ = some (.int .i64 spent) := by
  unfold Bud at h; simp [World.cell?, h]
theorem Bud.c2 {w : World} {b : Nat} {left spent : Int} {whole : Option Addr} (h : Bud w b left spent whole) : w.cell? ⟨b, 2, none⟩ = some (.pointer whole) := by
  unfold Bud at h; simp [World.cell?, h]
theorem Bud.free {w : World} {b : Nat} {left spent : Int} {whole : Option Addr} (h : Bud w b left spent whole) (i : Nat) : w.frozen? ⟨b, i, none⟩ = false := by
  unfold Bud at h; simp [World.frozen?, h]
theorem Bud.lt {w : World} {b : Nat} {left spent : Int} {whole : Option Addr} (h : Bud w b left spent whole) : b < w.heap.size := lt_of_block h
theorem Bud.kept {w w1 : World} {b : Nat} {left spent : Int} {whole : Option Addr} (h : Bud w b left spent whole) (hk : w1.heap[b]? = w.heap[b]?) : Bud w1 b left spent whole := hk.trans h
theorem Bud.set0 {w : World} {b : Nat} {left spent : Int} {whole : Option Addr} (h : Bud w b left spent whole) (x : Int) : Bud (w.setCell ⟨b, 0, none⟩ (.int .i64 x)) b x spent whole := Go.Joins.block_setCell h (i := 0) _
theorem Bud.set1 {w : World} {b : Nat} {left spent : Int} {whole : Option Addr} (h : Bud w b left spent whole) (x : Int) : Bud (w.setCell ⟨b, 1, none⟩ (.int .i64 x)) b left x whole := Go.Joins.block_setCell h (i := 1) _
theorem grown_set (w : World) (b i : Nat) (u : Value) : w.grownBy (w.setCell ⟨b, i, none⟩ u) (some b) :=
  ⟨rfl, rfl, rfl, by simp [World.setCell], fun k _ hne => Below.heap_setCell _ _ _ _ (fun e => hne (by rw [e]))⟩

set_option maxHeartbeats 400000 in
theorem new_yes (n : Int) (w : World) (h : mayB n = true) : Calls Try.prog 14 #[.int .i64 n] w fun e w' => e = .returned (.tuple #[.pointer (some ⟨w.heap.size, 0, none⟩), .int .i64 0]) ∧ Bud w' w.heap.size n 0 none ∧ Below w.heap.size w w' := by
  go_enter Try.func14, Try.ntmps14
  go_wp2_with fail
  refine (may_any n w).mono ?_
  rintro e w1 ⟨rfl, rfl⟩
  go_wp2
  go_ret2
  exact ⟨rfl, heap_alloc_new _ _, (Below.refl _ _).alloc (Nat.le_refl _) _⟩
set_option maxHeartbeats 400000 in
theorem new_no (n : Int) (w : World) (h : mayB n = false) : Calls Try.prog 14 #[.int .i64 n] w fun e w' => e = .returned (.tuple #[.pointer none, .int .i64 21]) ∧ w' = w := by
  go_enter Try.func14, Try.ntmps14
  go_wp2_with fail
  refine (may_any n w).mono ?_
  rintro e w1 ⟨rfl, rfl⟩
  go_wp2
  go_ret2
  exact ⟨rfl, rfl⟩

set_option maxHeartbeats 400000 in
theorem anyL (b : Nat) (left spent : Int) (whole : Option Addr) (w : World) (h : Bud w b left spent whole) : Calls Try.prog 53 #[.pointer (some ⟨b, 0, none⟩)] w fun e w' => e = .returned (.bool (left != 0)) ∧ w' = w := by
  have hc := h.c0
  clear h
  go_enter Try.func53, Try.ntmps53
  go_wp2
  go_ret
  exact ⟨rfl, rfl⟩
set_option maxHeartbeats 400000 in
theorem leftL (b : Nat) (left spent : Int) (whole : Option Addr) (w : World) (h : Bud w b left spent whole) : Calls Try.prog 55 #[.pointer (some ⟨b, 0, none⟩)] w fun e w' => e = .returned (.int .i64 left) ∧ w' = w := by
  have hc := h.c0
  clear h
  go_enter Try.func55, Try.ntmps55
  go_wp2
  go_ret
  exact ⟨rfl, rfl⟩
set_option maxHeartbeats 400000 in
theorem spentL (b : Nat) (left spent : Int) (whole : Option Addr) (w : World) (h : Bud w b left spent whole) : Calls Try.prog 56 #[.pointer (some ⟨b, 0, none⟩)] w fun e w' => e = .returned (.int .i64 spent) ∧ w' = w := by
  have hc := h.c1
  clear h
  go_enter Try.func56, Try.ntmps56
  go_wp2
  go_ret
  exact ⟨rfl, rfl⟩
def decB (left : Int) : Int := if 0 < left then left - 1 else left
set_option maxHeartbeats 400000 in
theorem takeL (b : Nat) (left : Int) (spent : Nat) (whole : Option Addr) (w : World) (h : Bud w b left spent whole) (hs : spent ≤ 1000) (hl : left ≤ 4611686018427387904) : Calls Try.prog 54 #[.pointer (some ⟨b, 0, none⟩)] w fun e w' => e = .returned (.tuple #[]) ∧ Bud w' b (decB left) ((spent + 1 : Nat) : Int) whole ∧ w.grownBy w' (some b) := by
  have hc := h.c0
  have hc1 := h.c1
  have hf0 := h.free 0
  have hf1 := h.free 1
  have H := Lib.hid h
  clear h
  by_cases hp : 0 < left
  · have E : Hid (decB left = left - 1) := if_pos hp
    go_enter Try.func54, Try.ntmps54
    go_wp2
    go_returns
    refine ⟨rfl, ?_, (grown_set _ _ _ _).trans (grown_set _ _ _ _)⟩
    rw [E.out]
    exact (H.out.set1 _).set0 _
  · have E : Hid (decB left = left) := if_neg hp
    go_enter Try.func54, Try.ntmps54
    go_wp2
    go_returns
    refine ⟨rfl, ?_, (grown_set _ _ _ _)⟩
    rw [E.out]
    exact (H.out.set1 _)

set_option maxHeartbeats 400000 in
theorem take_nil (w : World) : Calls Try.prog 19 #[.pointer none] w fun e w' => e = .returned (.bool false) ∧ w' = w := by
  go_enter Try.func19, Try.ntmps19
  go_wp2
  go_ret
  exact ⟨rfl, rfl⟩
set_option maxHeartbeats 400000 in
theorem left_nil (w : World) : Calls Try.prog 20 #[.pointer none] w fun e w' => e = .returned (.int .i64 0) ∧ w' = w := by
  go_enter Try.func20, Try.ntmps20
  go_wp2
  go_ret
  exact ⟨rfl, rfl⟩
set_option maxHeartbeats 400000 in
theorem spent_nil (w : World) : Calls Try.prog 21 #[.pointer none] w fun e w' => e = .returned (.int .i64 0) ∧ w' = w := by
  go_enter Try.func21, Try.ntmps21
  go_wp2
  go_ret
  exact ⟨rfl, rfl⟩
set_option maxHeartbeats 400000 in
theorem part_nil (n : Int) (w : World) : Calls Try.prog 29 #[.pointer none, .int .i64 n] w fun e w' => e = .returned (.tuple #[.pointer none, .int .i64 1]) ∧ w' = w := by
  go_enter Try.func29, Try.ntmps29
  go_wp2
  go_ret2
  exact ⟨rfl, rfl⟩

set_option maxHeartbeats 400000 in
theorem spent_any (b : Nat) (left spent : Int) (whole : Option Addr) (w : World) (h : Bud w b left spent whole) : Calls Try.prog 21 #[.pointer (some ⟨b, 0, none⟩)] w fun e w' => e = .returned (.int .i64 spent) ∧ w' = w := by
  have H := Lib.hid h
  clear h
  go_enter Try.func21, Try.ntmps21
  go_wp2_with fail
  refine (spentL b left spent whole w H.out).mono ?_
  rintro e w1 ⟨rfl, rfl⟩
  go_wp2
  go_ret
  exact ⟨rfl, rfl⟩

set_option maxHeartbeats 400000 in
theorem take_one_no (b : Nat) (spent : Int) (w : World) (h : Bud w b 0 spent none) : Calls Try.prog 19 #[.pointer (some ⟨b, 0, none⟩)] w fun e w' => e = .returned (.bool false) ∧ w' = w := by
  have H := Lib.hid h
  have hc2 := h.c2
  clear h
  go_enter Try.func19, Try.ntmps19
  go_wp2
  refine wp_loop_rounds 1 ?_
  rw [rounds_succ]
  go_wp2_with fail
  refine (anyL b 0 spent none w H.out).mono ?_
  rintro e w1 ⟨rfl, rfl⟩
  go_wp2
  go_ret
  exact ⟨rfl, rfl⟩
set_option maxHeartbeats 400000 in
theorem take_one_yes (b : Nat) (left : Int) (spent : Nat) (w : World) (h : Bud w b left spent none) (h0 : left ≠ 0) (hs : spent ≤ 1000) (hl : left ≤ 4611686018427387904) : Calls Try.prog 19 #[.pointer (some ⟨b, 0, none⟩)] w fun e w' => e = .returned (.bool true) ∧ Bud w' b (decB left) ((spent + 1 : Nat) : Int) none ∧ w.grownBy w' (some b) := by
  have H := Lib.hid h
  have hc2 := h.c2
  have hd : (left != 0) = true := by simpa using h0
  clear h
  go_enter Try.func19, Try.ntmps19
  go_wp2
  refine wp_loop_rounds 2 ?_
  rw [rounds_succ]
  go_wp2_with fail
  refine (anyL b left spent none w H.out).mono ?_
  rintro e w1 ⟨rfl, rfl⟩
  go_wp2
  rw [rounds_succ]
  go_wp2
  refine wp_loop_rounds 2 ?_
  rw [rounds_succ]
  go_wp2_with fail
  refine (takeL b left spent none w1 H.out hs hl).mono ?_
  rintro e w2 ⟨rfl, h2, hg⟩
  have H2 := Lib.hid h2
  have HG := Lib.hid hg
  have hc2' := h2.c2
  clear h2 hg hc2 H
  go_wp2
  rw [rounds_succ]
  go_wp2
  go_ret
  exact ⟨rfl, H2.out, HG.out⟩
set_option maxHeartbeats 400000 in
theorem left_one (b : Nat) (left spent : Int) (w : World) (h : Bud w b left spent none) : Calls Try.prog 20 #[.pointer (some ⟨b, 0, none⟩)] w fun e w' => e = .returned (.int .i64 left) ∧ w' = w := by
  have H := Lib.hid h
  have hc2 := h.c2
  clear h
  go_enter Try.func20, Try.ntmps20
  go_wp2_with fail
  refine (leftL b left spent none w H.out).mono ?_
  rintro e w1 ⟨rfl, rfl⟩
  go_wp2
  refine wp_loop_rounds 1 ?_
  rw [rounds_succ]
  go_wp2
  go_ret
  exact ⟨rfl, rfl⟩
end Go.Proofs.Ytlndlcdamimbdaa
