/- The walks of what the statements on bytes ask first, and of the law BinNone. -/
import Derived.Test.YtlndlcdamimbdaaRdKey
import Derived.Test.YtlndlcdamimbdaaRdNum
import Derived.Test.YtlndlcdamimbdaaNumW
namespace Go.Proofs.Ytlndlcdamimbdaa
open Go.RowKit

theorem numL300 : numL 300 = [172, 2] := by
  rw [numL_big 300 (by decide), numL_small _ (by decide)]; rfl
set_option maxHeartbeats 1600000 in
theorem live03_any (w : World) : Calls Try.prog 31 #[] w fun e w' => e = .returned (.bool true) ∧ Below w.heap.size w w' := by
  have HNR : Hid (∀ w : World, ∀ A : Addr, Row w .u8 (some A) [172, 2, 9] → Calls Try.prog 38 #[.slice (some A) 3 3] w fun e w' => ∃ b, w.heap.size ≤ b ∧ e = .returned (.pointer (some ⟨b, 0, none⟩)) ∧ Rd 80 [] w' b [172, 2, 9] 0 ∧ Below w.heap.size w w') := fun w A h => newReader_any (l := [172, 2, 9]) h (by intro x hx; simp at hx; omega) (fun e => by cases e) (by decide)
  have q1 : ((strOfNums [2, 1]).toList == [2, 1]) = true := by rw [ByteArray.toList_eq]; rfl
  have q2 : ((strOfNums [172, 2]).toList == [172, 2]) = true := by rw [ByteArray.toList_eq]; rfl
  go_enter Try.func31, Try.ntmps31
  go_wp2_with fail
  refine (HNR.out _ _ (Row.new w .u8 [172, 2, 9] 5 (0, 0) (by decide))).mono ?_
  rintro e w1 ⟨b, hb0, rfl, h1, hb1⟩
  have hbb : w.heap.size ≤ b := by simp at hb0; omega
  have B1 := Lib.hid (below_via hb1 ((Below.refl _ w).alloc (Nat.le_refl _) _))
  have H1 := Lib.hid h1
  clear h1 hb1 HNR hb0
  have HN : Hid (Calls Try.prog 39 #[.pointer (some ⟨b, 0, none⟩)] w1 fun e' w' => e' = .returned (.int .i64 300) ∧ Rd 80 [] w' b [9] 0 ∧ w1.grownBy w' (some b)) := by
    have := num_all H1.out
    rw [show numV [172, 2, 9] 0 = 300 by decide, show numS [172, 2, 9] 0 = [9] by decide, show numE [172, 2, 9] 0 = 0 by decide] at this
    exact this
  go_wp2_with fail
  refine HN.out.mono ?_
  rintro e w2 ⟨rfl, h2, hg2⟩
  have H2 := Lib.hid h2
  have B2 := Lib.hid (B1.out.grown hg2 B1.out.size (fun k hk => by injection hk with hk; omega))
  clear h2 hg2 HN H1 B1
  have HN : Hid (Calls Try.prog 41 #[.pointer (some ⟨b, 0, none⟩), .int .i64 1] w2 fun e' w' => e' = .returned (.int .u64 9) ∧ Rd 80 [] w' b [] 0 ∧ w2.grownBy w' (some b)) := by
    have := fixedR_any H2.out 1
    rw [show fxV [9] 0 1 = 9 by decide, show fxS [9] 0 1 = [] by decide, show fxE [9] 0 1 = 0 by decide] at this
    exact this
  go_wp2_with fail
  refine HN.out.mono ?_
  rintro e w3 ⟨rfl, h3, hg3⟩
  have H3 := Lib.hid h3
  have B3 := Lib.hid (B2.out.grown hg3 B2.out.size (fun k hk => by injection hk with hk; omega))
  clear h3 hg3 HN H2 B2
  go_wp2_with fail
  refine (fixed_yes 258 2 w3 (by decide) (by decide) (.inr (by decide))).mono ?_
  rintro e w4 ⟨g4, cp4, hg4, rfl, ho4, hb4⟩
  have hc4 : Sem.run Try.prog (convert 49 9 (.slice (some ⟨g4, 0, none⟩) 2 cp4)) w4 = .ok (.string (strOfNums [2, 1])) w4 := ho4.row.string (l := fixL 258 2) Try.underlying49 Try.underlying5 Try.underlying9
  have H4 := Lib.hid (H3.out.after hb4)
  have B4 := Lib.hid (below_step B3.out hb4)
  clear ho4 hb4 H3 B3
  have HN : Hid (∀ w : World, Calls Try.prog 34 #[.int .i64 300] w fun e w' => ∃ g cp, w.heap.size ≤ g ∧ e = .returned (.slice (some ⟨g, 0, none⟩) 2 cp) ∧ OwnRow w' 5 .u8 g cp [172, 2] ∧ Below w.heap.size w w') := by
    intro w
    have := num_yes 300 w (by decide)
    rw [numL300] at this
    exact this
  go_wp2_with fail
  refine (HN.out _).mono ?_
  rintro e w5 ⟨g5, cp5, hg5, rfl, ho5, hb5⟩
  have hc5 : Sem.run Try.prog (convert 49 9 (.slice (some ⟨g5, 0, none⟩) 2 cp5)) w5 = .ok (.string (strOfNums [172, 2])) w5 := ho5.row.string (l := [172, 2]) Try.underlying49 Try.underlying5 Try.underlying9
  have H5 := Lib.hid (H4.out.after hb5)
  have B5 := Lib.hid (below_step B4.out hb5)
  clear ho5 hb5 H4 B4 HN hc4
  go_wp2_with fail
  refine (err_any H5.out).mono ?_
  rintro e w6 ⟨rfl, rfl⟩
  go_wp2_with fail
  refine (left_any H5.out).mono ?_
  rintro e w7 ⟨rfl, rfl⟩
  clear hc5
  go_wp2_with fail
  refine (key_yes 1 0 w7 (by decide)).mono ?_
  rintro e w8 ⟨g8, cp8, hg8, rfl, ho8, hb8⟩
  have B8 := Lib.hid (below_step B5.out hb8)
  clear ho8 hb8
  go_wp2
  go_ret
  exact ⟨rfl, B8.out⟩

set_option maxHeartbeats 400000 in
theorem left_nilR (w : World) : Calls Try.prog 42 #[.pointer none] w fun e w' => e = .returned (.int .i64 0) ∧ w' = w := by
  go_enter Try.func42, Try.ntmps42
  go_wp2
  go_ret
  exact ⟨rfl, rfl⟩
set_option maxHeartbeats 400000 in
theorem err_nilR (w : World) : Calls Try.prog 43 #[.pointer none] w fun e w' => e = .returned (.int .i64 1) ∧ w' = w := by
  go_enter Try.func43, Try.ntmps43
  go_wp2
  go_ret
  exact ⟨rfl, rfl⟩
set_option maxHeartbeats 400000 in
theorem num_nilR (w : World) : Calls Try.prog 39 #[.pointer none] w fun e w' => e = .returned (.int .i64 0) ∧ w' = w := by
  go_enter Try.func39, Try.ntmps39
  go_wp2_with fail
  refine (ok_nil true w).mono ?_
  rintro e w1 ⟨rfl, rfl⟩
  go_wp2
  go_ret
  exact ⟨rfl, rfl⟩
set_option maxHeartbeats 400000 in
theorem fixed_nilR (n : Int) (w : World) : Calls Try.prog 41 #[.pointer none, .int .i64 n] w fun e w' => e = .returned (.int .u64 0) ∧ w' = w := by
  by_cases h1 : 1 ≤ n
  · go_enter Try.func41, Try.ntmps41
    go_wp2_with fail
    refine (ok_nil _ w).mono ?_
    rintro e w1 ⟨rfl, rfl⟩
    go_wp2
    go_ret
    exact ⟨rfl, rfl⟩
  · go_enter Try.func41, Try.ntmps41
    go_wp2_with fail
    refine (ok_nil _ w).mono ?_
    rintro e w1 ⟨rfl, rfl⟩
    go_wp2
    go_ret
    exact ⟨rfl, rfl⟩
set_option maxHeartbeats 400000 in
theorem bytes_nilR (n : Int) (w : World) : Calls Try.prog 47 #[.pointer none, .int .i64 n] w fun e w' => e = .returned (.slice none 0 0) ∧ w' = w := by
  go_enter Try.func47, Try.ntmps47
  go_wp2_with fail
  refine (ok_nil _ w).mono ?_
  rintro e w1 ⟨rfl, rfl⟩
  go_wp2
  go_ret
  exact ⟨rfl, rfl⟩
set_option maxHeartbeats 400000 in
theorem key_nilR (w : World) : Calls Try.prog 40 #[.pointer none] w fun e w' => e = .returned (.agg #[.int .u64 0, .int .u64 0]) ∧ Below w.heap.size w w' := by
  go_enter Try.func40, Try.ntmps40
  go_wp2_with fail
  refine (ok_nil _ _).mono ?_
  rintro e w1 ⟨rfl, rfl⟩
  go_wp2
  exact bodyPost_ret (v := .agg #[.int .u64 0, .int .u64 0]) (by simp [results, Try.results40, go_sem]) rfl ⟨rfl, (Below.refl _ w).alloc (Nat.le_refl _) _⟩

set_option maxHeartbeats 800000 in
theorem binNone_walk (n : Int) (w : World) : Calls Try.prog 11 #[.int .i64 n] w fun e w' => e = .returned (.bool true) ∧ Below w.heap.size w w' := by
  go_enter Try.func11, Try.ntmps11
  go_wp2_with fail
  refine (live03_any w).mono ?_
  rintro e w1 ⟨rfl, hb⟩
  have HB := Lib.hid hb
  clear hb
  go_wp2_with fail
  refine (fixed_nilR n w1).mono ?_
  rintro e w2 ⟨rfl, rfl⟩
  go_wp2_with fail
  refine (num_nilR w2).mono ?_
  rintro e w3 ⟨rfl, rfl⟩
  go_wp2_with fail
  refine (key_nilR w3).mono ?_
  rintro e w4 ⟨rfl, hb⟩
  have HB4 := Lib.hid (below_step HB.out hb)
  clear hb HB
  go_wp2_with fail
  refine (bytes_nilR n w4).mono ?_
  rintro e w5 ⟨rfl, rfl⟩
  go_wp2_with fail
  refine (left_nilR w5).mono ?_
  rintro e w6 ⟨rfl, rfl⟩
  go_wp2_with fail
  refine (err_nilR w6).mono ?_
  rintro e w7 ⟨rfl, rfl⟩
  go_wp2
  go_ret
  exact ⟨rfl, HB4.out⟩
end Go.Proofs.Ytlndlcdamimbdaa
