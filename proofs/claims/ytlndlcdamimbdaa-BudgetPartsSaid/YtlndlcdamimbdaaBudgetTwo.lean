/- The walks of budget for a part: Part, Take, Left of two links; the reference's Less. -/
import Derived.Test.YtlndlcdamimbdaaBudgetTakes
namespace Go.Proofs.Ytlndlcdamimbdaa
open Go.RowKit

/-- The lesser of two numbers that are left, as the program says it, and as the reference does. -/
def lessC (x y : Int) : Int := if x = -1 ∨ (y ≠ -1 ∧ y < x) then y else x
def lessR (a b : Int) : Int := if a < 0 ∨ (0 ≤ b ∧ b < a) then b else a
theorem less_eq (x y : Int) (hx : -1 ≤ x) (hy : -1 ≤ y) : lessC x y = lessR y x := by
  unfold lessC lessR
  by_cases h1 : x = -1
  · subst h1
    rw [if_pos (.inl rfl)]
    split <;> omega
  · by_cases h2 : y = -1
    · subst h2
      rw [if_neg (by omega), if_pos (.inl (by omega))]
    · by_cases h3 : y < x
      · rw [if_pos (.inr ⟨h2, h3⟩), if_neg (by omega)]
      · rw [if_neg (by omega)]
        split <;> omega
theorem lessR_ge (a b : Int) (ha : -1 ≤ a) (hb : -1 ≤ b) : -1 ≤ lessR a b := by unfold lessR; split <;> omega
theorem lessR_le (a b : Int) (ha : a ≤ 4611686018427387904) (hb : b ≤ 4611686018427387904) : lessR a b ≤ 4611686018427387904 := by unfold lessR; split <;> omega

set_option maxHeartbeats 400000 in
theorem refLess_any (a b : Int) (w : World) : Calls Try.prog 30 #[.int .i64 a, .int .i64 b] w fun e w' => e = .returned (.int .i64 (lessR a b)) ∧ w' = w := by
  by_cases h1 : a < 0
  · have E : Hid (lessR a b = b) := if_pos (.inl h1)
    go_enter Try.func30, Try.ntmps30
    go_wp2
    go_ret
    exact ⟨by rw [E.out]; rfl, rfl⟩
  · by_cases h2 : 0 ≤ b
    · by_cases h3 : b < a
      · have E : Hid (lessR a b = b) := if_pos (.inr ⟨h2, h3⟩)
        go_enter Try.func30, Try.ntmps30
        go_wp2
        go_ret
        exact ⟨by rw [E.out]; rfl, rfl⟩
      · have E : Hid (lessR a b = a) := if_neg (by omega)
        go_enter Try.func30, Try.ntmps30
        go_wp2
        go_ret
        exact ⟨by rw [E.out]; rfl, rfl⟩
    · have E : Hid (lessR a b = a) := if_neg (by omega)
      go_enter Try.func30, Try.ntmps30
      go_wp2
      go_ret
      exact ⟨by rw [E.out]; rfl, rfl⟩

set_option maxHeartbeats 800000 in
theorem left_two (b p : Nat) (bl bs pl ps : Int) (w : World) (hb : Bud w b bl bs none) (hp : Bud w p pl ps (some ⟨b, 0, none⟩)) : Calls Try.prog 20 #[.pointer (some ⟨p, 0, none⟩)] w fun e w' => e = .returned (.int .i64 (lessC pl bl)) ∧ w' = w := by
  have HB := Lib.hid hb
  have HP := Lib.hid hp
  have hc2 := hp.c2
  have hb2 := hb.c2
  clear hb hp
  by_cases h1 : pl = -1
  · subst h1
    have E : Hid (lessC (-1) bl = bl) := if_pos (.inl rfl)
    go_enter Try.func20, Try.ntmps20
    go_wp2_with fail
    refine (leftL p (-1) ps _ w HP.out).mono ?_
    rintro e w1 ⟨rfl, rfl⟩
    go_wp2
    refine wp_loop_rounds 2 ?_
    rw [rounds_succ]
    go_wp2_with fail
    refine (leftL b bl bs none w1 HB.out).mono ?_
    rintro e w2 ⟨rfl, rfl⟩
    go_wp2
    rw [rounds_succ]
    go_wp2
    go_ret
    exact ⟨by rw [E.out]; rfl, rfl⟩
  · have h1' : (pl == -1) = false := beq_eq_false_iff_ne.2 h1
    by_cases h2 : bl = -1
    · subst h2
      have E : Hid (lessC pl (-1) = pl) := if_neg (by omega)
      clear h1
      go_enter Try.func20, Try.ntmps20
      go_wp2_with fail
      refine (leftL p pl ps _ w HP.out).mono ?_
      rintro e w1 ⟨rfl, rfl⟩
      go_wp2
      refine wp_loop_rounds 2 ?_
      rw [rounds_succ]
      go_wp2_with fail
      refine (leftL b (-1) bs none w1 HB.out).mono ?_
      rintro e w2 ⟨rfl, rfl⟩
      go_wp2
      rw [rounds_succ]
      go_wp2
      go_ret
      exact ⟨by rw [E.out]; rfl, rfl⟩
    · have h2' : (bl != -1) = true := by simpa using h2
      by_cases h3 : bl < pl
      · have E : Hid (lessC pl bl = bl) := if_pos (.inr ⟨h2, h3⟩)
        clear h1 h2
        go_enter Try.func20, Try.ntmps20
        go_wp2_with fail
        refine (leftL p pl ps _ w HP.out).mono ?_
        rintro e w1 ⟨rfl, rfl⟩
        go_wp2
        refine wp_loop_rounds 2 ?_
        rw [rounds_succ]
        go_wp2_with fail
        refine (leftL b bl bs none w1 HB.out).mono ?_
        rintro e w2 ⟨rfl, rfl⟩
        go_wp2
        rw [rounds_succ]
        go_wp2
        go_ret
        exact ⟨by rw [E.out]; rfl, rfl⟩
      · have E : Hid (lessC pl bl = pl) := if_neg (by omega)
        clear h1 h2
        go_enter Try.func20, Try.ntmps20
        go_wp2_with fail
        refine (leftL p pl ps _ w HP.out).mono ?_
        rintro e w1 ⟨rfl, rfl⟩
        go_wp2
        refine wp_loop_rounds 2 ?_
        rw [rounds_succ]
        go_wp2_with fail
        refine (leftL b bl bs none w1 HB.out).mono ?_
        rintro e w2 ⟨rfl, rfl⟩
        go_wp2
        rw [rounds_succ]
        go_wp2
        go_ret
        exact ⟨by rw [E.out]; rfl, rfl⟩

set_option maxHeartbeats 800000 in
theorem part_yes (b : Nat) (bl bs m : Int) (w : World) (hb : Bud w b bl bs none) (hm : mayB m = true) : Calls Try.prog 29 #[.pointer (some ⟨b, 0, none⟩), .int .i64 m] w fun e w' => e = .returned (.tuple #[.pointer (some ⟨w.heap.size, 0, none⟩), .int .i64 0]) ∧ Bud w' w.heap.size (lessC m bl) 0 (some ⟨b, 0, none⟩) ∧ Below w.heap.size w w' := by
  have HB := Lib.hid (hb.kept (Below.heap_alloc w (.cells #[.int .i64 m, .int .i64 0, .pointer (some ⟨b, 0, none⟩)] 75) _ hb.lt))
  have HP : Hid (Bud (w.alloc (.cells #[.int .i64 m, .int .i64 0, .pointer (some ⟨b, 0, none⟩)] 75)) w.heap.size m 0 (some ⟨b, 0, none⟩)) := heap_alloc_new _ _
  have HM := Lib.hid hm
  clear hb hm
  go_enter Try.func29, Try.ntmps29
  go_wp2_with fail
  refine (may_any m w).mono ?_
  rintro e w1 ⟨rfl, rfl⟩
  rw [HM.out]
  go_wp2_with fail
  refine (left_two b w1.heap.size bl bs m 0 _ HB.out HP.out).mono ?_
  rintro e w2 ⟨rfl, rfl⟩
  go_wp2
  go_ret2
  exact ⟨rfl, heap_alloc_new _ _, (Below.refl _ _).alloc (Nat.le_refl _) _⟩
set_option maxHeartbeats 800000 in
theorem part_no (b : Nat) (m : Int) (w : World) (hm : mayB m = false) : Calls Try.prog 29 #[.pointer (some ⟨b, 0, none⟩), .int .i64 m] w fun e w' => e = .returned (.tuple #[.pointer none, .int .i64 21]) ∧ w' = w := by
  have HM := Lib.hid hm
  clear hm
  go_enter Try.func29, Try.ntmps29
  go_wp2_with fail
  refine (may_any m w).mono ?_
  rintro e w1 ⟨rfl, rfl⟩
  rw [HM.out]
  go_wp2
  go_ret2
  exact ⟨rfl, rfl⟩

set_option maxHeartbeats 800000 in
theorem take_two_p (b p : Nat) (ps : Int) (w : World) (hp : Bud w p 0 ps (some ⟨b, 0, none⟩)) : Calls Try.prog 19 #[.pointer (some ⟨p, 0, none⟩)] w fun e w' => e = .returned (.bool false) ∧ w' = w := by
  have HP := Lib.hid hp
  clear hp
  go_enter Try.func19, Try.ntmps19
  go_wp2
  refine wp_loop_rounds 1 ?_
  rw [rounds_succ]
  go_wp2_with fail
  refine (anyL p 0 ps _ w HP.out).mono ?_
  rintro e w1 ⟨rfl, rfl⟩
  go_wp2
  go_ret
  exact ⟨rfl, rfl⟩
set_option maxHeartbeats 800000 in
theorem take_two_b (b p : Nat) (bs pl ps : Int) (w : World) (hb : Bud w b 0 bs none) (hp : Bud w p pl ps (some ⟨b, 0, none⟩)) (h0 : pl ≠ 0) : Calls Try.prog 19 #[.pointer (some ⟨p, 0, none⟩)] w fun e w' => e = .returned (.bool false) ∧ w' = w := by
  have HB := Lib.hid hb
  have HP := Lib.hid hp
  have hc2 := hp.c2
  have hd : (pl != 0) = true := by simpa using h0
  clear hb hp h0
  go_enter Try.func19, Try.ntmps19
  go_wp2
  refine wp_loop_rounds 2 ?_
  rw [rounds_succ]
  go_wp2_with fail
  refine (anyL p pl ps _ w HP.out).mono ?_
  rintro e w1 ⟨rfl, rfl⟩
  go_wp2
  rw [rounds_succ]
  go_wp2_with fail
  refine (anyL b 0 bs none w1 HB.out).mono ?_
  rintro e w2 ⟨rfl, rfl⟩
  go_wp2
  go_ret
  exact ⟨rfl, rfl⟩
set_option maxHeartbeats 1600000 in
theorem take_two_yes (b p : Nat) (bl pl : Int) (bs ps : Nat) (w : World) (hb : Bud w b bl bs none) (hp : Bud w p pl ps (some ⟨b, 0, none⟩)) (hne : p ≠ b) (h0 : pl ≠ 0) (h1 : bl ≠ 0) (hbs : bs ≤ 1000) (hps : ps ≤ 1000) (hbl : bl ≤ 4611686018427387904) (hpl : pl ≤ 4611686018427387904) : Calls Try.prog 19 #[.pointer (some ⟨p, 0, none⟩)] w fun e w' => e = .returned (.bool true) ∧ ∃ w1, (Bud w1 p (decB pl) ((ps + 1 : Nat) : Int) (some ⟨b, 0, none⟩) ∧ w.grownBy w1 (some p)) ∧ Bud w' b (decB bl) ((bs + 1 : Nat) : Int) none ∧ w1.grownBy w' (some b) := by
  have HB := Lib.hid hb
  have HP := Lib.hid hp
  have HT := Lib.hid (takeL p pl ps _ w hp hps hpl)
  have hc2 := hp.c2
  have hb2 := hb.c2
  have hd : (pl != 0) = true := by simpa using h0
  have hd2 : (bl != 0) = true := by simpa using h1
  clear hb hp h0 h1
  go_enter Try.func19, Try.ntmps19
  go_wp2
  refine wp_loop_rounds 3 ?_
  rw [rounds_succ]
  go_wp2_with fail
  refine (anyL p pl ps _ w HP.out).mono ?_
  rintro e w1 ⟨rfl, rfl⟩
  go_wp2
  rw [rounds_succ]
  go_wp2_with fail
  refine (anyL b bl bs none w1 HB.out).mono ?_
  rintro e w2 ⟨rfl, rfl⟩
  go_wp2
  rw [rounds_succ]
  go_wp2
  refine wp_loop_rounds 3 ?_
  rw [rounds_succ]
  go_wp2_with fail
  refine HT.out.mono ?_
  rintro e w3 ⟨rfl, h3, hg3⟩
  have H3 := Lib.hid h3
  have HG3 := Lib.hid hg3
  have HB3 := Lib.hid (HB.out.kept (hg3.block _ HB.out.lt (fun e => hne (by injection e with e; exact e.symm))))
  have hc3 := h3.c2
  clear h3 hg3 HT hc2 hb2 HB HP
  go_wp2
  rw [rounds_succ]
  go_wp2_with fail
  refine (takeL b bl bs none w3 HB3.out hbs hbl).mono ?_
  rintro e w4 ⟨rfl, h4, hg4⟩
  have H4 := Lib.hid h4
  have HG4 := Lib.hid hg4
  have hc4 := h4.c2
  clear h4 hg4 HB3 hc3
  go_wp2
  rw [rounds_succ]
  go_wp2
  go_ret
  exact ⟨rfl, w3, ⟨H3.out, HG3.out⟩, H4.out, HG4.out⟩
end Go.Proofs.Ytlndlcdamimbdaa
