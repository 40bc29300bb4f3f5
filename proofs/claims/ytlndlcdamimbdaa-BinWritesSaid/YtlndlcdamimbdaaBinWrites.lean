/- The walk of the law BinWrites. -/
import Derived.Test.YtlndlcdamimbdaaGives
import Derived.Test.YtlndlcdamimbdaaBinLive
import Derived.Test.YtlndlcdamimbdaaStrong
namespace Go.Proofs.Ytlndlcdamimbdaa
open Go.RowKit

/-- What each step of the law keeps: the word that came in, and all that stood before. -/
def Kp (w : World) (g hi lo : Nat) (w' : World) : Prop := w'.cell? ⟨g, 0, none⟩ = some (.int .u64 hi) ∧ w'.cell? ⟨g, 1, none⟩ = some (.int .u64 lo) ∧ Below w.heap.size w w'
theorem Kp.next {w : World} {g hi lo : Nat} {w1 w2 : World} (hb : Below w1.heap.size w1 w2) (h : Kp w g hi lo w1) : Kp w g hi lo w2 := ⟨cell_below hb h.1, cell_below hb h.2.1, below_via hb h.2.2⟩

set_option linter.unusedSimpArgs false in
set_option maxRecDepth 100000 in
set_option maxHeartbeats 6400000 in
theorem binWrites_walk (v : Nat) (n : Int) (hi lo : Nat) (w : World) (hv : v < 18446744073709551616) (hlo : lo < 18446744073709551616) : Calls Try.prog 8 #[.int .u64 v, .int .i64 n, .agg #[.int .u64 hi, .int .u64 lo]] w fun e w' => e = .returned (.bool true) ∧ Below w.heap.size w w' := by
  have H1 : Hid (∀ w, Calls Try.prog 32 #[.int .u64 v, .int .i64 n] w (Gives w (fixW v n))) := fun w => fixed_w v n w hv
  have H2 : Hid (∀ w, Calls Try.prog 33 #[.int .u64 v, .int .i64 n] w (Gives w (fixW v n))) := fun w => refFixed_w v n w hv
  have hz : IntKind.i64.wrap (v : Int) < 9223372036854775808 := by rw [IntKind.wrap_i64]; omega
  have H3 : Hid (∀ w, Calls Try.prog 34 #[.int .i64 (IntKind.i64.wrap (v : Int))] w (Gives w (numW (IntKind.i64.wrap (v : Int))))) := fun w => num_w _ w hz
  have H4 : Hid (∀ w, Calls Try.prog 35 #[.int .i64 (IntKind.i64.wrap (v : Int))] w (Gives w (numW (IntKind.i64.wrap (v : Int))))) := fun w => refNum_w _ w hz
  have H5 : Hid (∀ w, Calls Try.prog 36 #[.agg #[.int .u64 hi, .int .u64 lo]] w (Gives w (keyW hi lo))) := fun w => key_w hi lo w
  have H6 : Hid (∀ w, Calls Try.prog 37 #[.agg #[.int .u64 hi, .int .u64 lo]] w (Gives w (keyW hi lo))) := fun w => refKey_w hi lo w hlo
  generalize numW (IntKind.i64.wrap (v : Int)) = L2 at *
  generalize keyW hi lo = L3 at *
  generalize fixW v n = L1 at *
  have hst : Kp w w.heap.size hi lo (w.alloc (.cells #[.int .u64 hi, .int .u64 lo] 35)).drew := ⟨(Blk.new w 35 #[.int .u64 hi, .int .u64 lo]).two.1, (Blk.new w 35 #[.int .u64 hi, .int .u64 lo]).two.2, ((Below.refl _ w).alloc (Nat.le_refl _) _).drew⟩
  clear hz hv hlo
  go_enter Try.func8, Try.ntmps8
  go_wp2_with fail
  refine wp_region_held_drew (S := (fun w' => w'.cell? ⟨w.heap.size, 0, none⟩ = some (.int .u64 hi) ∧ w'.cell? ⟨w.heap.size, 1, none⟩ = some (.int .u64 lo) ∧ Below w.heap.size w w')) (by kernel_rfl) (hst) (fun hHeld => ?_)
  refine wpAnyH_ready (rs := [0]) (by kernel_rfl) (by simp) ?_
  refine AllReadyH.cons rfl (fun K hK => ?_) AllReadyH.nil
  go_simp
  refine (live03_any _).mono ?_
  rintro e w' ⟨rfl, hb⟩
  have hst := Kp.next hb hst
  clear hb
  try (go_wp2_with fail)
  refine hK.out _ _ (hst) (fun hHeld => ?_)
  clear hK K
  try simp only [Act.put, List.getElem_toArray, List.getElem_cons_zero, List.getElem_cons_succ, List.setIfInBounds_toArray, List.set_cons_zero, List.set_cons_succ]
  refine wpAnyH_take (i := 1) (v := ?_) rfl (by kernel_rfl) (by kernel_rfl) (by kernel_rfl) (fun _ _ _ h => h) (Or.inl ⟨by rfl, ?_⟩) (by assumption) ?_
  rotate_left
  · intro w hSw
    (try dsimp only at hSw)
    (go_simp <;> (try with_reducible rfl))
  try simp only [Act.put, List.getElem_toArray, List.getElem_cons_zero, List.getElem_cons_succ, List.setIfInBounds_toArray, List.set_cons_zero, List.set_cons_succ]
  refine wpAnyH_take (i := 2) (v := ?_) rfl (by kernel_rfl) (by kernel_rfl) (by kernel_rfl) (fun _ _ _ h => h) (Or.inl ⟨by rfl, ?_⟩) (by assumption) ?_
  rotate_left
  · intro w hSw
    (try dsimp only at hSw)
    (go_simp <;> (try with_reducible rfl))
  try simp only [Act.put, List.getElem_toArray, List.getElem_cons_zero, List.getElem_cons_succ, List.setIfInBounds_toArray, List.set_cons_zero, List.set_cons_succ]
  refine wpAnyH_take (i := 3) (v := ?_) rfl (by kernel_rfl) (by kernel_rfl) (by kernel_rfl) (fun _ _ _ h => h) (Or.inl ⟨by rfl, ?_⟩) (by assumption) ?_
  rotate_left
  · intro w hSw
    (try dsimp only at hSw)
    (go_simp <;> (try with_reducible rfl))
  try simp only [Act.put, List.getElem_toArray, List.getElem_cons_zero, List.getElem_cons_succ, List.setIfInBounds_toArray, List.set_cons_zero, List.set_cons_succ]
  refine wpAnyH_take (i := 6) (v := ?_) rfl (by kernel_rfl) (by kernel_rfl) (by kernel_rfl) (fun _ _ _ h => h) (Or.inl ⟨by rfl, ?_⟩) (by assumption) ?_
  rotate_left
  · intro w hSw
    (try dsimp only at hSw)
    (go_simp <;> (try with_reducible rfl))
  try simp only [Act.put, List.getElem_toArray, List.getElem_cons_zero, List.getElem_cons_succ, List.setIfInBounds_toArray, List.set_cons_zero, List.set_cons_succ]
  refine wpAnyH_take (i := 7) (v := ?_) rfl (by kernel_rfl) (by kernel_rfl) (by kernel_rfl) (fun _ _ _ h => h) (Or.inl ⟨by rfl, ?_⟩) (by assumption) ?_
  rotate_left
  · intro w hSw
    (try dsimp only at hSw)
    (go_simp <;> (try with_reducible rfl))
  try simp only [Act.put, List.getElem_toArray, List.getElem_cons_zero, List.getElem_cons_succ, List.setIfInBounds_toArray, List.set_cons_zero, List.set_cons_succ]
  refine wpAnyH_ready (rs := [4]) (by kernel_rfl) (by simp) ?_
  refine AllReadyH.cons rfl (fun K hK => ?_) AllReadyH.nil
  go_simp
  refine (H1.out _).mono ?_
  rintro e w' ⟨A1, c1, rfl, hr1, hb⟩
  have hst := Kp.next hb hst
  clear hb
  try (go_wp2_with fail)
  refine hK.out _ _ (hst) (fun hHeld => ?_)
  clear hK K
  try simp only [Act.put, List.getElem_toArray, List.getElem_cons_zero, List.getElem_cons_succ, List.setIfInBounds_toArray, List.set_cons_zero, List.set_cons_succ]
  refine wpAnyH_strong (S' := (fun w' => ((w'.cell? ⟨w.heap.size, 0, none⟩ = some (.int .u64 hi) ∧ w'.cell? ⟨w.heap.size, 1, none⟩ = some (.int .u64 lo) ∧ Below w.heap.size w w') ∧ Row w' .u8 A1 L1))) (fun _ h => h.1) _ _ _ _ ?_
  have hHeld := ((And.intro hst hr1))
  have hv1 : ∀ w', (((w'.cell? ⟨w.heap.size, 0, none⟩ = some (.int .u64 hi) ∧ w'.cell? ⟨w.heap.size, 1, none⟩ = some (.int .u64 lo) ∧ Below w.heap.size w w') ∧ Row w' .u8 A1 L1)) → Sem.run Try.prog (convert 49 9 (.slice A1 L1.length c1)) w' = .ok (.string (strOfNums L1)) w' := fun w' h => h.2.string (c := c1) Try.underlying49 Try.underlying5 Try.underlying9
  refine wpAnyH_take (i := 5) (v := ?_) rfl (by kernel_rfl) (by kernel_rfl) (by kernel_rfl) (fun _ _ _ h => h) (Or.inl ⟨by rfl, ?_⟩) (by assumption) ?_
  rotate_left
  · intro w hSw
    (try dsimp only at hSw)
    (go_simp <;> (try with_reducible rfl))
  try simp only [Act.put, List.getElem_toArray, List.getElem_cons_zero, List.getElem_cons_succ, List.setIfInBounds_toArray, List.set_cons_zero, List.set_cons_succ]
  clear hv1
  refine wpAnyH_ready (rs := [8]) (by kernel_rfl) (by simp) ?_
  refine AllReadyH.cons rfl (fun K hK => ?_) AllReadyH.nil
  go_simp
  refine (H2.out _).mono ?_
  rintro e w' ⟨A2, c2, rfl, hr2, hb⟩
  have hst := Kp.next hb hst
  have hr1 := Row.after hb hr1
  clear hb
  try (go_wp2_with fail)
  refine hK.out _ _ ((And.intro hst hr1)) (fun hHeld => ?_)
  clear hK K
  try simp only [Act.put, List.getElem_toArray, List.getElem_cons_zero, List.getElem_cons_succ, List.setIfInBounds_toArray, List.set_cons_zero, List.set_cons_succ]
  refine wpAnyH_strong (S' := (fun w' => (((w'.cell? ⟨w.heap.size, 0, none⟩ = some (.int .u64 hi) ∧ w'.cell? ⟨w.heap.size, 1, none⟩ = some (.int .u64 lo) ∧ Below w.heap.size w w') ∧ Row w' .u8 A1 L1) ∧ Row w' .u8 A2 L1))) (fun _ h => h.1) _ _ _ _ ?_
  have hHeld := ((And.intro (And.intro hst hr1) hr2))
  have hv2 : ∀ w', ((((w'.cell? ⟨w.heap.size, 0, none⟩ = some (.int .u64 hi) ∧ w'.cell? ⟨w.heap.size, 1, none⟩ = some (.int .u64 lo) ∧ Below w.heap.size w w') ∧ Row w' .u8 A1 L1) ∧ Row w' .u8 A2 L1)) → Sem.run Try.prog (convert 49 9 (.slice A2 L1.length c2)) w' = .ok (.string (strOfNums L1)) w' := fun w' h => h.2.string (c := c2) Try.underlying49 Try.underlying5 Try.underlying9
  refine wpAnyH_take (i := 9) (v := ?_) rfl (by kernel_rfl) (by kernel_rfl) (by kernel_rfl) (fun _ _ _ h => h) (Or.inl ⟨by rfl, ?_⟩) (by assumption) ?_
  rotate_left
  · intro w hSw
    (try dsimp only at hSw)
    (go_simp <;> (try with_reducible rfl))
  try simp only [Act.put, List.getElem_toArray, List.getElem_cons_zero, List.getElem_cons_succ, List.setIfInBounds_toArray, List.set_cons_zero, List.set_cons_succ]
  clear hv2
  refine wpAnyH_take (i := 10) (v := ?_) rfl (by kernel_rfl) (by kernel_rfl) (by kernel_rfl) (fun _ _ _ h => h) (Or.inl ⟨by rfl, ?_⟩) (by assumption) ?_
  rotate_left
  · intro w hSw
    (try dsimp only at hSw)
    (go_simp <;> (try with_reducible rfl))
  try simp only [Act.put, List.getElem_toArray, List.getElem_cons_zero, List.getElem_cons_succ, List.setIfInBounds_toArray, List.set_cons_zero, List.set_cons_succ]
  refine wpAnyH_take (i := 11) (v := ?_) rfl (by kernel_rfl) (by kernel_rfl) (by kernel_rfl) (fun _ _ _ h => h) (Or.inl ⟨by rfl, ?_⟩) (by assumption) ?_
  rotate_left
  · intro w hSw
    (try dsimp only at hSw)
    (go_simp <;> (try with_reducible rfl))
  try simp only [Act.put, List.getElem_toArray, List.getElem_cons_zero, List.getElem_cons_succ, List.setIfInBounds_toArray, List.set_cons_zero, List.set_cons_succ]
  refine wpAnyH_take (i := 12) (v := ?_) rfl (by kernel_rfl) (by kernel_rfl) (by kernel_rfl) (fun _ _ _ h => h) (Or.inl ⟨by rfl, ?_⟩) (by assumption) ?_
  rotate_left
  · intro w hSw
    (try dsimp only at hSw)
    (go_simp <;> (try with_reducible rfl))
  try simp only [Act.put, List.getElem_toArray, List.getElem_cons_zero, List.getElem_cons_succ, List.setIfInBounds_toArray, List.set_cons_zero, List.set_cons_succ]
  refine wpAnyH_take (i := 13) (v := ?_) rfl (by kernel_rfl) (by kernel_rfl) (by kernel_rfl) (fun _ _ _ h => h) (Or.inl ⟨by rfl, ?_⟩) (by assumption) ?_
  rotate_left
  · intro w hSw
    (try dsimp only at hSw)
    (go_simp <;> (try with_reducible rfl))
  try simp only [Act.put, List.getElem_toArray, List.getElem_cons_zero, List.getElem_cons_succ, List.setIfInBounds_toArray, List.set_cons_zero, List.set_cons_succ]
  refine wpAnyH_take (i := 14) (v := ?_) rfl (by kernel_rfl) (by kernel_rfl) (by kernel_rfl) (fun _ _ _ h => h) (Or.inl ⟨by rfl, ?_⟩) (by assumption) ?_
  rotate_left
  · intro w hSw
    (try dsimp only at hSw)
    (go_simp <;> (try with_reducible rfl))
  try simp only [Act.put, List.getElem_toArray, List.getElem_cons_zero, List.getElem_cons_succ, List.setIfInBounds_toArray, List.set_cons_zero, List.set_cons_succ]
  refine wpAnyH_take (i := 17) (v := ?_) rfl (by kernel_rfl) (by kernel_rfl) (by kernel_rfl) (fun _ _ _ h => h) (Or.inl ⟨by rfl, ?_⟩) (by assumption) ?_
  rotate_left
  · intro w hSw
    (try dsimp only at hSw)
    (go_simp <;> (try with_reducible rfl))
  try simp only [Act.put, List.getElem_toArray, List.getElem_cons_zero, List.getElem_cons_succ, List.setIfInBounds_toArray, List.set_cons_zero, List.set_cons_succ]
  refine wpAnyH_take (i := 18) (v := ?_) rfl (by kernel_rfl) (by kernel_rfl) (by kernel_rfl) (fun _ _ _ h => h) (Or.inl ⟨by rfl, ?_⟩) (by assumption) ?_
  rotate_left
  · intro w hSw
    (try dsimp only at hSw)
    (go_simp <;> (try with_reducible rfl))
  try simp only [Act.put, List.getElem_toArray, List.getElem_cons_zero, List.getElem_cons_succ, List.setIfInBounds_toArray, List.set_cons_zero, List.set_cons_succ]
  refine wpAnyH_ready (rs := [15]) (by kernel_rfl) (by simp) ?_
  refine AllReadyH.cons rfl (fun K hK => ?_) AllReadyH.nil
  go_simp
  refine (H3.out _).mono ?_
  rintro e w' ⟨A3, c3, rfl, hr3, hb⟩
  have hst := Kp.next hb hst
  have hr1 := Row.after hb hr1
  have hr2 := Row.after hb hr2
  clear hb
  try (go_wp2_with fail)
  refine hK.out _ _ ((And.intro (And.intro hst hr1) hr2)) (fun hHeld => ?_)
  clear hK K
  try simp only [Act.put, List.getElem_toArray, List.getElem_cons_zero, List.getElem_cons_succ, List.setIfInBounds_toArray, List.set_cons_zero, List.set_cons_succ]
  refine wpAnyH_strong (S' := (fun w' => ((((w'.cell? ⟨w.heap.size, 0, none⟩ = some (.int .u64 hi) ∧ w'.cell? ⟨w.heap.size, 1, none⟩ = some (.int .u64 lo) ∧ Below w.heap.size w w') ∧ Row w' .u8 A1 L1) ∧ Row w' .u8 A2 L1) ∧ Row w' .u8 A3 L2))) (fun _ h => h.1) _ _ _ _ ?_
  have hHeld := ((And.intro (And.intro (And.intro hst hr1) hr2) hr3))
  have hv3 : ∀ w', (((((w'.cell? ⟨w.heap.size, 0, none⟩ = some (.int .u64 hi) ∧ w'.cell? ⟨w.heap.size, 1, none⟩ = some (.int .u64 lo) ∧ Below w.heap.size w w') ∧ Row w' .u8 A1 L1) ∧ Row w' .u8 A2 L1) ∧ Row w' .u8 A3 L2)) → Sem.run Try.prog (convert 49 9 (.slice A3 L2.length c3)) w' = .ok (.string (strOfNums L2)) w' := fun w' h => h.2.string (c := c3) Try.underlying49 Try.underlying5 Try.underlying9
  refine wpAnyH_take (i := 16) (v := ?_) rfl (by kernel_rfl) (by kernel_rfl) (by kernel_rfl) (fun _ _ _ h => h) (Or.inl ⟨by rfl, ?_⟩) (by assumption) ?_
  rotate_left
  · intro w hSw
    (try dsimp only at hSw)
    (go_simp <;> (try with_reducible rfl))
  try simp only [Act.put, List.getElem_toArray, List.getElem_cons_zero, List.getElem_cons_succ, List.setIfInBounds_toArray, List.set_cons_zero, List.set_cons_succ]
  clear hv3
  refine wpAnyH_ready (rs := [19]) (by kernel_rfl) (by simp) ?_
  refine AllReadyH.cons rfl (fun K hK => ?_) AllReadyH.nil
  go_simp
  refine (H4.out _).mono ?_
  rintro e w' ⟨A4, c4, rfl, hr4, hb⟩
  have hst := Kp.next hb hst
  have hr1 := Row.after hb hr1
  have hr2 := Row.after hb hr2
  have hr3 := Row.after hb hr3
  clear hb
  try (go_wp2_with fail)
  refine hK.out _ _ ((And.intro (And.intro (And.intro hst hr1) hr2) hr3)) (fun hHeld => ?_)
  clear hK K
  try simp only [Act.put, List.getElem_toArray, List.getElem_cons_zero, List.getElem_cons_succ, List.setIfInBounds_toArray, List.set_cons_zero, List.set_cons_succ]
  refine wpAnyH_strong (S' := (fun w' => (((((w'.cell? ⟨w.heap.size, 0, none⟩ = some (.int .u64 hi) ∧ w'.cell? ⟨w.heap.size, 1, none⟩ = some (.int .u64 lo) ∧ Below w.heap.size w w') ∧ Row w' .u8 A1 L1) ∧ Row w' .u8 A2 L1) ∧ Row w' .u8 A3 L2) ∧ Row w' .u8 A4 L2))) (fun _ h => h.1) _ _ _ _ ?_
  have hHeld := ((And.intro (And.intro (And.intro (And.intro hst hr1) hr2) hr3) hr4))
  have hv4 : ∀ w', ((((((w'.cell? ⟨w.heap.size, 0, none⟩ = some (.int .u64 hi) ∧ w'.cell? ⟨w.heap.size, 1, none⟩ = some (.int .u64 lo) ∧ Below w.heap.size w w') ∧ Row w' .u8 A1 L1) ∧ Row w' .u8 A2 L1) ∧ Row w' .u8 A3 L2) ∧ Row w' .u8 A4 L2)) → Sem.run Try.prog (convert 49 9 (.slice A4 L2.length c4)) w' = .ok (.string (strOfNums L2)) w' := fun w' h => h.2.string (c := c4) Try.underlying49 Try.underlying5 Try.underlying9
  refine wpAnyH_take (i := 20) (v := ?_) rfl (by kernel_rfl) (by kernel_rfl) (by kernel_rfl) (fun _ _ _ h => h) (Or.inl ⟨by rfl, ?_⟩) (by assumption) ?_
  rotate_left
  · intro w hSw
    (try dsimp only at hSw)
    (go_simp <;> (try with_reducible rfl))
  try simp only [Act.put, List.getElem_toArray, List.getElem_cons_zero, List.getElem_cons_succ, List.setIfInBounds_toArray, List.set_cons_zero, List.set_cons_succ]
  clear hv4
  refine wpAnyH_take (i := 21) (v := ?_) rfl (by kernel_rfl) (by kernel_rfl) (by kernel_rfl) (fun _ _ _ h => h) (Or.inl ⟨by rfl, ?_⟩) (by assumption) ?_
  rotate_left
  · intro w hSw
    (try dsimp only at hSw)
    (go_simp <;> (try with_reducible rfl))
  try simp only [Act.put, List.getElem_toArray, List.getElem_cons_zero, List.getElem_cons_succ, List.setIfInBounds_toArray, List.set_cons_zero, List.set_cons_succ]
  refine wpAnyH_take (i := 22) (v := ?_) rfl (by kernel_rfl) (by kernel_rfl) (by kernel_rfl) (fun _ _ _ h => h) (Or.inl ⟨by rfl, ?_⟩) (by assumption) ?_
  rotate_left
  · intro w hSw
    (try dsimp only at hSw)
    (go_simp <;> (try with_reducible rfl))
  try simp only [Act.put, List.getElem_toArray, List.getElem_cons_zero, List.getElem_cons_succ, List.setIfInBounds_toArray, List.set_cons_zero, List.set_cons_succ]
  refine wpAnyH_take (i := 23) (v := ?_) rfl (by kernel_rfl) (by kernel_rfl) (by kernel_rfl) (fun _ _ _ h => h) (Or.inl ⟨by rfl, ?_⟩) (by assumption) ?_
  rotate_left
  · intro w hSw
    (try dsimp only at hSw)
    (go_simp <;> (try with_reducible rfl))
  try simp only [Act.put, List.getElem_toArray, List.getElem_cons_zero, List.getElem_cons_succ, List.setIfInBounds_toArray, List.set_cons_zero, List.set_cons_succ]
  refine wpAnyH_take (i := 24) (v := ?_) rfl (by kernel_rfl) (by kernel_rfl) (by kernel_rfl) (fun _ _ _ h => h) (Or.inl ⟨by rfl, ?_⟩) (by assumption) ?_
  rotate_left
  · intro w hSw
    (try dsimp only at hSw)
    (go_simp <;> (try with_reducible rfl))
  try simp only [Act.put, List.getElem_toArray, List.getElem_cons_zero, List.getElem_cons_succ, List.setIfInBounds_toArray, List.set_cons_zero, List.set_cons_succ]
  refine wpAnyH_take (i := 27) (v := ?_) rfl (by kernel_rfl) (by kernel_rfl) (by kernel_rfl) (fun _ _ _ h => h) (Or.inl ⟨by rfl, ?_⟩) (by assumption) ?_
  rotate_left
  · intro w hSw
    (try dsimp only at hSw)
    (go_simp <;> (try with_reducible rfl))
  try simp only [Act.put, List.getElem_toArray, List.getElem_cons_zero, List.getElem_cons_succ, List.setIfInBounds_toArray, List.set_cons_zero, List.set_cons_succ]
  refine wpAnyH_ready (rs := [25]) (by kernel_rfl) (by simp) ?_
  refine AllReadyH.cons rfl (fun K hK => ?_) AllReadyH.nil
  go_simp
  refine (H5.out _).mono ?_
  rintro e w' ⟨A5, c5, rfl, hr5, hb⟩
  have hst := Kp.next hb hst
  have hr1 := Row.after hb hr1
  have hr2 := Row.after hb hr2
  have hr3 := Row.after hb hr3
  have hr4 := Row.after hb hr4
  clear hb
  try (go_wp2_with fail)
  refine hK.out _ _ ((And.intro (And.intro (And.intro (And.intro hst hr1) hr2) hr3) hr4)) (fun hHeld => ?_)
  clear hK K
  try simp only [Act.put, List.getElem_toArray, List.getElem_cons_zero, List.getElem_cons_succ, List.setIfInBounds_toArray, List.set_cons_zero, List.set_cons_succ]
  refine wpAnyH_strong (S' := (fun w' => ((((((w'.cell? ⟨w.heap.size, 0, none⟩ = some (.int .u64 hi) ∧ w'.cell? ⟨w.heap.size, 1, none⟩ = some (.int .u64 lo) ∧ Below w.heap.size w w') ∧ Row w' .u8 A1 L1) ∧ Row w' .u8 A2 L1) ∧ Row w' .u8 A3 L2) ∧ Row w' .u8 A4 L2) ∧ Row w' .u8 A5 L3))) (fun _ h => h.1) _ _ _ _ ?_
  have hHeld := ((And.intro (And.intro (And.intro (And.intro (And.intro hst hr1) hr2) hr3) hr4) hr5))
  have hv5 : ∀ w', (((((((w'.cell? ⟨w.heap.size, 0, none⟩ = some (.int .u64 hi) ∧ w'.cell? ⟨w.heap.size, 1, none⟩ = some (.int .u64 lo) ∧ Below w.heap.size w w') ∧ Row w' .u8 A1 L1) ∧ Row w' .u8 A2 L1) ∧ Row w' .u8 A3 L2) ∧ Row w' .u8 A4 L2) ∧ Row w' .u8 A5 L3)) → Sem.run Try.prog (convert 49 9 (.slice A5 L3.length c5)) w' = .ok (.string (strOfNums L3)) w' := fun w' h => h.2.string (c := c5) Try.underlying49 Try.underlying5 Try.underlying9
  refine wpAnyH_take (i := 26) (v := ?_) rfl (by kernel_rfl) (by kernel_rfl) (by kernel_rfl) (fun _ _ _ h => h) (Or.inl ⟨by rfl, ?_⟩) (by assumption) ?_
  rotate_left
  · intro w hSw
    (try dsimp only at hSw)
    (go_simp <;> (try with_reducible rfl))
  try simp only [Act.put, List.getElem_toArray, List.getElem_cons_zero, List.getElem_cons_succ, List.setIfInBounds_toArray, List.set_cons_zero, List.set_cons_succ]
  clear hv5
  refine wpAnyH_ready (rs := [28]) (by kernel_rfl) (by simp) ?_
  refine AllReadyH.cons rfl (fun K hK => ?_) AllReadyH.nil
  go_simp
  refine (H6.out _).mono ?_
  rintro e w' ⟨A6, c6, rfl, hr6, hb⟩
  have hst := Kp.next hb hst
  have hr1 := Row.after hb hr1
  have hr2 := Row.after hb hr2
  have hr3 := Row.after hb hr3
  have hr4 := Row.after hb hr4
  have hr5 := Row.after hb hr5
  clear hb
  try (go_wp2_with fail)
  refine hK.out _ _ ((And.intro (And.intro (And.intro (And.intro (And.intro hst hr1) hr2) hr3) hr4) hr5)) (fun hHeld => ?_)
  clear hK K
  try simp only [Act.put, List.getElem_toArray, List.getElem_cons_zero, List.getElem_cons_succ, List.setIfInBounds_toArray, List.set_cons_zero, List.set_cons_succ]
  refine wpAnyH_strong (S' := (fun w' => (((((((w'.cell? ⟨w.heap.size, 0, none⟩ = some (.int .u64 hi) ∧ w'.cell? ⟨w.heap.size, 1, none⟩ = some (.int .u64 lo) ∧ Below w.heap.size w w') ∧ Row w' .u8 A1 L1) ∧ Row w' .u8 A2 L1) ∧ Row w' .u8 A3 L2) ∧ Row w' .u8 A4 L2) ∧ Row w' .u8 A5 L3) ∧ Row w' .u8 A6 L3))) (fun _ h => h.1) _ _ _ _ ?_
  have hHeld := ((And.intro (And.intro (And.intro (And.intro (And.intro (And.intro hst hr1) hr2) hr3) hr4) hr5) hr6))
  have hv6 : ∀ w', ((((((((w'.cell? ⟨w.heap.size, 0, none⟩ = some (.int .u64 hi) ∧ w'.cell? ⟨w.heap.size, 1, none⟩ = some (.int .u64 lo) ∧ Below w.heap.size w w') ∧ Row w' .u8 A1 L1) ∧ Row w' .u8 A2 L1) ∧ Row w' .u8 A3 L2) ∧ Row w' .u8 A4 L2) ∧ Row w' .u8 A5 L3) ∧ Row w' .u8 A6 L3)) → Sem.run Try.prog (convert 49 9 (.slice A6 L3.length c6)) w' = .ok (.string (strOfNums L3)) w' := fun w' h => h.2.string (c := c6) Try.underlying49 Try.underlying5 Try.underlying9
  refine wpAnyH_take (i := 29) (v := ?_) rfl (by kernel_rfl) (by kernel_rfl) (by kernel_rfl) (fun _ _ _ h => h) (Or.inl ⟨by rfl, ?_⟩) (by assumption) ?_
  rotate_left
  · intro w hSw
    (try dsimp only at hSw)
    (go_simp <;> (try with_reducible rfl))
  try simp only [Act.put, List.getElem_toArray, List.getElem_cons_zero, List.getElem_cons_succ, List.setIfInBounds_toArray, List.set_cons_zero, List.set_cons_succ]
  clear hv6
  refine wpAnyH_take (i := 30) (v := ?_) rfl (by kernel_rfl) (by kernel_rfl) (by kernel_rfl) (fun _ _ _ h => h) (Or.inl ⟨by rfl, ?_⟩) (by assumption) ?_
  rotate_left
  · intro w hSw
    (try dsimp only at hSw)
    (go_simp <;> (try with_reducible rfl))
  try simp only [Act.put, List.getElem_toArray, List.getElem_cons_zero, List.getElem_cons_succ, List.setIfInBounds_toArray, List.set_cons_zero, List.set_cons_succ]
  refine wpAnyH_take (i := 31) (v := ?_) rfl (by kernel_rfl) (by kernel_rfl) (by kernel_rfl) (fun _ _ _ h => h) (Or.inl ⟨by rfl, ?_⟩) (by assumption) ?_
  rotate_left
  · intro w hSw
    (try dsimp only at hSw)
    (go_simp <;> (try with_reducible rfl))
  try simp only [Act.put, List.getElem_toArray, List.getElem_cons_zero, List.getElem_cons_succ, List.setIfInBounds_toArray, List.set_cons_zero, List.set_cons_succ]
  refine wpAnyH_take (i := 32) (v := ?_) rfl (by kernel_rfl) (by kernel_rfl) (by kernel_rfl) (fun _ _ _ h => h) (Or.inl ⟨by rfl, ?_⟩) (by assumption) ?_
  rotate_left
  · intro w hSw
    (try dsimp only at hSw)
    (go_simp <;> (try with_reducible rfl))
  try simp only [Act.put, List.getElem_toArray, List.getElem_cons_zero, List.getElem_cons_succ, List.setIfInBounds_toArray, List.set_cons_zero, List.set_cons_succ]
  refine wpAnyH_done (by kernel_rfl) ?_ _
  all_goals go_wp2
  all_goals go_ret
  all_goals exact ⟨rfl, hst.2.2⟩
end Go.Proofs.Ytlndlcdamimbdaa
