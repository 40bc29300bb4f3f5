/- The walk of the law SlotPacks, step by step. -/
import Derived.Test.YtlndlcdamimbdaaSlotPacks
import Derived.Test.YtlndlcdamimbdaaOpenB
import Derived.Test.YtlndlcdamimbdaaStrong
namespace Go.Proofs.Ytlndlcdamimbdaa
open Go.RowKit

/-- A slot's six cells lie in block g; nothing that stood before has turned. -/
def Ks (w : World) (g : Nat) (s : Sl) (w' : World) : Prop := (w'.cell? ⟨g, 0, none⟩ = some (.int .u64 s.hi) ∧ w'.cell? ⟨g, 1, none⟩ = some (.int .u64 s.lo) ∧ w'.cell? ⟨g, 2, none⟩ = some (.int .i64 s.kind) ∧ w'.cell? ⟨g, 3, none⟩ = some (.int .i64 s.score) ∧ w'.cell? ⟨g, 4, none⟩ = some (.int .i64 s.work) ∧ w'.cell? ⟨g, 5, none⟩ = some (.int .i64 s.age)) ∧ Below w.heap.size w w'
theorem Ks.next {w : World} {g : Nat} {s : Sl} {w1 w2 : World} (hb : Below w1.heap.size w1 w2) (h : Ks w g s w1) : Ks w g s w2 :=
  ⟨⟨cell_below hb h.1.1, cell_below hb h.1.2.1, cell_below hb h.1.2.2.1, cell_below hb h.1.2.2.2.1, cell_below hb h.1.2.2.2.2.1, cell_below hb h.1.2.2.2.2.2⟩, below_via hb h.2⟩
theorem Ks.drew {w : World} {g : Nat} {s : Sl} {w1 : World} (h : Ks w g s w1) : Ks w g s w1.drew := ⟨h.1, h.2.drew⟩
theorem Ks.new (w : World) (s : Sl) : Ks w w.heap.size s (w.alloc (.cells #[.int .u64 s.hi, .int .u64 s.lo, .int .i64 s.kind, .int .i64 s.score, .int .i64 s.work, .int .i64 s.age] 38)) :=
  ⟨(Blk.new w 38 _).six, (Below.refl _ w).alloc (Nat.le_refl _) _⟩

set_option maxRecDepth 100000 in
set_option maxHeartbeats 3200000 in
theorem slotPacks_no (hi lo : Nat) (kind score work age : Int) (w : World) (hm : mayS ⟨hi, lo, kind, score, work, age⟩ = false) : Calls Try.prog 12 #[.agg #[.int .u64 hi, .int .u64 lo, .int .i64 kind, .int .i64 score, .int .i64 work, .int .i64 age]] w fun e w' => e = .returned (.bool true) ∧ Below w.heap.size w w' := by
  have HP : Hid (∀ w, Calls Try.prog 49 #[.agg #[.int .u64 hi, .int .u64 lo, .int .i64 kind, .int .i64 score, .int .i64 work, .int .i64 age]] w fun e w' => e = .returned (.slice none 0 0) ∧ Below w.heap.size w w') := fun w => pack_no ⟨hi, lo, kind, score, work, age⟩ w hm
  have HQ : Hid (∀ w, Calls Try.prog 50 #[.agg #[.int .u64 hi, .int .u64 lo, .int .i64 kind, .int .i64 score, .int .i64 work, .int .i64 age]] w fun e w' => e = .returned (.slice none 0 0) ∧ Below w.heap.size w w') := fun w => refPack_no ⟨hi, lo, kind, score, work, age⟩ w hm
  have HM : Hid (∀ w, Calls Try.prog 25 #[.agg #[.int .u64 hi, .int .u64 lo, .int .i64 kind, .int .i64 score, .int .i64 work, .int .i64 age]] w fun e w' => e = .returned (.bool false) ∧ Below w.heap.size w w') := fun w => by
    have := may_any ⟨hi, lo, kind, score, work, age⟩ w
    rw [hm] at this
    exact this
  have HN : Hid (∀ w, Calls Try.prog 23 #[.agg #[.int .u64 hi, .int .u64 lo, .int .i64 kind, .int .i64 score, .int .i64 work, .int .i64 age]] w fun e w' => e = .returned (.bool false) ∧ Below w.heap.size w w') := fun w => by
    have := refMay22_any ⟨hi, lo, kind, score, work, age⟩ w
    rw [hm] at this
    exact this
  have hk0 := Ks.new w ⟨hi, lo, kind, score, work, age⟩
  have HK0 := Lib.hid hk0
  have hcv : ∀ w : World, Sem.run Try.prog (convert 49 9 (.slice none 0 0)) w = .ok (.string (strOfNums [])) w := fun w => (Row.nil w .u8).string (c := 0) Try.underlying49 Try.underlying5 Try.underlying9
  clear hk0 hm
  go_enter Try.func12, Try.ntmps12
  go_wp2_with fail
  refine (HP.out _).mono ?_
  rintro e w1 ⟨rfl, hb1⟩
  have HK1 := Lib.hid (Ks.next hb1 HK0.out)
  clear hb1 HK0 HP
  have hst : Ks w w.heap.size ⟨hi, lo, kind, score, work, age⟩ w1.drew := HK1.out.drew
  go_wp2_with fail
  go_region_held3 (fun w' => (w'.cell? ⟨w.heap.size, 0, none⟩ = some (.int .u64 hi) ∧ w'.cell? ⟨w.heap.size, 1, none⟩ = some (.int .u64 lo) ∧ w'.cell? ⟨w.heap.size, 2, none⟩ = some (.int .i64 kind) ∧ w'.cell? ⟨w.heap.size, 3, none⟩ = some (.int .i64 score) ∧ w'.cell? ⟨w.heap.size, 4, none⟩ = some (.int .i64 work) ∧ w'.cell? ⟨w.heap.size, 5, none⟩ = some (.int .i64 age)) ∧ Below w.heap.size w w') (first | exact hst) (first
    | (go_at_call 50; refine (HQ.out _).mono ?_; rintro e w' ⟨rfl, hb⟩; have hst := Ks.next hb hst; clear hb)
    | (go_at_call 25; refine (HM.out _).mono ?_; rintro e w' ⟨rfl, hb⟩; have hst := Ks.next hb hst; clear hb)
    | (go_at_call 23; refine (HN.out _).mono ?_; rintro e w' ⟨rfl, hb⟩; have hst := Ks.next hb hst; clear hb))
  all_goals (
    have HST := Lib.hid hst
    clear hst hcv
    obtain ⟨c0, c1, c2, c3, c4, c5⟩ := HST.out.1
    go_wp2_with fail
    refine (HN.out _).mono ?_
    rintro e w9 ⟨rfl, hb9⟩
    have HB9 := Lib.hid (below_via hb9 HST.out.2)
    clear hb9 c0 c1 c2 c3 c4 c5
    go_wp2_with fail
    refine (live22_any _).mono ?_
    rintro e w10 ⟨rfl, hb10⟩
    have HB10 := Lib.hid (below_via hb10 HB9.out)
    clear hb10
    go_wp2
    go_ret
    exact ⟨rfl, HB10.out⟩)

set_option linter.unusedSimpArgs false in
set_option maxRecDepth 100000 in
set_option maxHeartbeats 3200000 in
theorem slotPacks_yes (hi lo : Nat) (kind score : Int) (wk : Nat) (age : Int) (w : World) (hlo : lo < 18446744073709551616) (hm : mayS ⟨hi, lo, kind, score, wk, age⟩ = true) : Calls Try.prog 12 #[.agg #[.int .u64 hi, .int .u64 lo, .int .i64 kind, .int .i64 score, .int .i64 wk, .int .i64 age]] w fun e w' => e = .returned (.bool true) ∧ Below w.heap.size w w' := by
  obtain ⟨h1, h2, h3, h4, h5, h6, h7, h8, h9⟩ := mayS_in hm
  have HP : Hid (∀ w, Calls Try.prog 49 #[.agg #[.int .u64 hi, .int .u64 lo, .int .i64 kind, .int .i64 score, .int .i64 wk, .int .i64 age]] w fun e w' => ∃ g cp, w.heap.size ≤ g ∧ e = .returned (.slice (some ⟨g, 0, none⟩) 16 cp) ∧ OwnRow w' 5 .u8 g cp (packL hi lo kind score wk age) ∧ Below w.heap.size w w') := fun w => pack_yes hi lo kind score wk age w h9 (by omega) hm
  have HQ : Hid (∀ w, Calls Try.prog 50 #[.agg #[.int .u64 hi, .int .u64 lo, .int .i64 kind, .int .i64 score, .int .i64 wk, .int .i64 age]] w fun e w' => ∃ g cp, w.heap.size ≤ g ∧ e = .returned (.slice (some ⟨g, 0, none⟩) 16 cp) ∧ OwnRow w' 5 .u8 g cp (packL hi lo kind score wk age) ∧ Below w.heap.size w w') := fun w => refPack_yes hi lo kind score wk age w h9 hlo (by omega) h3 h4 hm
  have HM : Hid (∀ w, Calls Try.prog 25 #[.agg #[.int .u64 hi, .int .u64 lo, .int .i64 kind, .int .i64 score, .int .i64 wk, .int .i64 age]] w fun e w' => e = .returned (.bool true) ∧ Below w.heap.size w w') := fun w => by
    have := may_any ⟨hi, lo, kind, score, wk, age⟩ w
    rw [hm] at this
    exact this
  have HN : Hid (∀ w, Calls Try.prog 23 #[.agg #[.int .u64 hi, .int .u64 lo, .int .i64 kind, .int .i64 score, .int .i64 wk, .int .i64 age]] w fun e w' => e = .returned (.bool true) ∧ Below w.heap.size w w') := fun w => by
    have := refMay22_any ⟨hi, lo, kind, score, wk, age⟩ w
    rw [hm] at this
    exact this
  have HU : Hid (∀ (w : World) (A : Addr) (c : Nat), Row w .u8 (some A) (packL hi lo kind score wk age) → Calls Try.prog 51 #[.slice (some A) 16 c] w fun e w' => e = .returned (.tuple #[.agg #[.int .u64 hi, .int .u64 lo, .int .i64 kind, .int .i64 score, .int .i64 wk, .int .i64 age], .int .i64 0]) ∧ Below w.heap.size w w') := fun w A c hr => by
    have e1 := unp_pack hi lo kind score wk age hlo hm
    have := unpack_yes (packL hi lo kind score wk age) (packL_len _ _ _ _ _ _) (byt_packL hi lo kind score wk age hm) A c w hr (by rw [e1]; exact hm)
    rw [e1] at this
    exact this
  have hln := packL_len hi lo kind score wk age
  have HLN := Lib.hid hln
  generalize packL hi lo kind score wk age = L at *
  have hk0 := Ks.new w ⟨hi, lo, kind, score, wk, age⟩
  have HK0 := Lib.hid hk0
  clear hk0 hm hln h1 h2 h3 h4 h5 h6 h7 h8 h9 hlo
  go_enter Try.func12, Try.ntmps12
  go_wp2_with fail
  refine (HP.out _).mono ?_
  rintro e w1 ⟨g1, cp1, hg1, rfl, ho1, hb1⟩
  have HK1 := Lib.hid (Ks.next hb1 HK0.out)
  clear hb1 HK0 HP hg1
  have HR1 := Lib.hid ho1.row
  clear ho1
  have hcv : ∀ w' : World, (((w'.cell? ⟨w.heap.size, 0, none⟩ = some (.int .u64 hi) ∧ w'.cell? ⟨w.heap.size, 1, none⟩ = some (.int .u64 lo) ∧ w'.cell? ⟨w.heap.size, 2, none⟩ = some (.int .i64 kind) ∧ w'.cell? ⟨w.heap.size, 3, none⟩ = some (.int .i64 score) ∧ w'.cell? ⟨w.heap.size, 4, none⟩ = some (.int .i64 wk) ∧ w'.cell? ⟨w.heap.size, 5, none⟩ = some (.int .i64 age)) ∧ Below w.heap.size w w') ∧ Row w' .u8 (some ⟨g1, 0, none⟩) L) → Sem.run Try.prog (convert 49 9 (.slice (some ⟨g1, 0, none⟩) 16 cp1)) w' = .ok (.string (strOfNums L)) w' := fun w' h => by
    have := h.2.string (c := cp1) Try.underlying49 Try.underlying5 Try.underlying9
    rw [HLN.out] at this
    exact this
  have hst : Ks w w.heap.size ⟨hi, lo, kind, score, wk, age⟩ w1.drew ∧ Row w1.drew .u8 (some ⟨g1, 0, none⟩) L := ⟨HK1.out.drew, HR1.out⟩
  go_wp2_with fail
  refine wp_region_held_drew (S := (fun w' => ((w'.cell? ⟨w.heap.size, 0, none⟩ = some (.int .u64 hi) ∧ w'.cell? ⟨w.heap.size, 1, none⟩ = some (.int .u64 lo) ∧ w'.cell? ⟨w.heap.size, 2, none⟩ = some (.int .i64 kind) ∧ w'.cell? ⟨w.heap.size, 3, none⟩ = some (.int .i64 score) ∧ w'.cell? ⟨w.heap.size, 4, none⟩ = some (.int .i64 wk) ∧ w'.cell? ⟨w.heap.size, 5, none⟩ = some (.int .i64 age)) ∧ Below w.heap.size w w') ∧ Row w' .u8 (some ⟨g1, 0, none⟩) L)) (by kernel_rfl) (hst) (fun hHeld => ?_)
  refine wpAnyH_take (i := 0) (v := ?_) rfl (by kernel_rfl) (by kernel_rfl) (by kernel_rfl) (fun _ _ _ h => h) (Or.inl ⟨by rfl, ?_⟩) (by assumption) ?_
  rotate_left
  · intro w hSw
    (try dsimp only at hSw)
    (go_simp <;> (try with_reducible rfl))
  try simp only [Act.put, List.getElem_toArray, List.getElem_cons_zero, List.getElem_cons_succ, List.setIfInBounds_toArray, List.set_cons_zero, List.set_cons_succ]
  refine wpAnyH_take (i := 1) (v := ?_) rfl (by kernel_rfl) (by kernel_rfl) (by kernel_rfl) (fun _ _ _ h => h) (Or.inl ⟨by rfl, ?_⟩) (by assumption) ?_
  rotate_left
  · intro w hSw
    (try dsimp only at hSw)
    (go_simp <;> (try with_reducible rfl))
  try simp only [Act.put, List.getElem_toArray, List.getElem_cons_zero, List.getElem_cons_succ, List.setIfInBounds_toArray, List.set_cons_zero, List.set_cons_succ]
  refine wpAnyH_take (i := 2) (v := ?_) rfl (by kernel_rfl) (by kernel_rfl) (by kernel_rfl) (fun _ _ _ h => h) (Or.inl ⟨by rfl, ?_⟩) (by assumption) ?_
  rotate_left
  · intro w hSw
    (try dsimp only at hSw)
    (go_simp <;> (try with_reducible rfl))
  try simp only [Act.put, List.getElem_toArray, List.getElem_cons_zero, List.getElem_cons_succ, List.setIfInBounds_toArray, List.set_cons_zero, List.set_cons_succ]
  refine wpAnyH_ready (rs := [3]) (by kernel_rfl) (by simp) ?_
  refine AllReadyH.cons rfl (fun K hK => ?_) AllReadyH.nil
  go_simp
  refine (HQ.out _).mono ?_
  rintro e w' ⟨g2, cp2, hg2, rfl, ho2, hb⟩
  have hst := And.intro (Ks.next hb hst.1) (Row.after hb hst.2)
  have hr2 := ho2.row
  clear hb ho2 hg2
  try (go_wp2_with fail)
  refine hK.out _ _ (hst) (fun hHeld => ?_)
  clear hK K
  try simp only [Act.put, List.getElem_toArray, List.getElem_cons_zero, List.getElem_cons_succ, List.setIfInBounds_toArray, List.set_cons_zero, List.set_cons_succ]
  refine wpAnyH_strong (S' := (fun w' => (((w'.cell? ⟨w.heap.size, 0, none⟩ = some (.int .u64 hi) ∧ w'.cell? ⟨w.heap.size, 1, none⟩ = some (.int .u64 lo) ∧ w'.cell? ⟨w.heap.size, 2, none⟩ = some (.int .i64 kind) ∧ w'.cell? ⟨w.heap.size, 3, none⟩ = some (.int .i64 score) ∧ w'.cell? ⟨w.heap.size, 4, none⟩ = some (.int .i64 wk) ∧ w'.cell? ⟨w.heap.size, 5, none⟩ = some (.int .i64 age)) ∧ Below w.heap.size w w') ∧ Row w' .u8 (some ⟨g1, 0, none⟩) L) ∧ Row w' .u8 (some ⟨g2, 0, none⟩) L)) (fun _ h => h.1) _ _ _ _ ?_
  have hHeld := (And.intro hst hr2)
  have hc2 : ∀ w', ((((w'.cell? ⟨w.heap.size, 0, none⟩ = some (.int .u64 hi) ∧ w'.cell? ⟨w.heap.size, 1, none⟩ = some (.int .u64 lo) ∧ w'.cell? ⟨w.heap.size, 2, none⟩ = some (.int .i64 kind) ∧ w'.cell? ⟨w.heap.size, 3, none⟩ = some (.int .i64 score) ∧ w'.cell? ⟨w.heap.size, 4, none⟩ = some (.int .i64 wk) ∧ w'.cell? ⟨w.heap.size, 5, none⟩ = some (.int .i64 age)) ∧ Below w.heap.size w w') ∧ Row w' .u8 (some ⟨g1, 0, none⟩) L) ∧ Row w' .u8 (some ⟨g2, 0, none⟩) L) → Sem.run Try.prog (convert 49 9 (.slice (some ⟨g2, 0, none⟩) 16 cp2)) w' = .ok (.string (strOfNums L)) w' := fun w' h => by
    have := h.2.string (c := cp2) Try.underlying49 Try.underlying5 Try.underlying9
    rw [HLN.out] at this
    exact this
  refine wpAnyH_take (i := 4) (v := ?_) rfl (by kernel_rfl) (by kernel_rfl) (by kernel_rfl) (fun _ _ _ h => h) (Or.inl ⟨by rfl, ?_⟩) (by assumption) ?_
  rotate_left
  · intro w hSw
    (try dsimp only at hSw)
    (go_simp <;> (try with_reducible rfl))
  try simp only [Act.put, List.getElem_toArray, List.getElem_cons_zero, List.getElem_cons_succ, List.setIfInBounds_toArray, List.set_cons_zero, List.set_cons_succ]
  refine wpAnyH_take (i := 5) (v := ?_) rfl (by kernel_rfl) (by kernel_rfl) (by kernel_rfl) (fun _ _ _ h => h) (Or.inl ⟨by rfl, ?_⟩) (by assumption) ?_
  rotate_left
  · intro w hSw
    (try dsimp only at hSw)
    (go_simp <;> (try with_reducible rfl))
  try simp only [Act.put, List.getElem_toArray, List.getElem_cons_zero, List.getElem_cons_succ, List.setIfInBounds_toArray, List.set_cons_zero, List.set_cons_succ]
  refine wpAnyH_take (i := 6) (v := ?_) rfl (by kernel_rfl) (by kernel_rfl) (by kernel_rfl) (fun _ _ _ h => h) (Or.inl ⟨by rfl, ?_⟩) (by assumption) ?_
  rotate_left
  · intro w hSw
    (try dsimp only at hSw)
    (go_simp <;> (try with_reducible rfl))
  try simp only [Act.put, List.getElem_toArray, List.getElem_cons_zero, List.getElem_cons_succ, List.setIfInBounds_toArray, List.set_cons_zero, List.set_cons_succ]
  refine wpAnyH_take (i := 7) (v := ?_) rfl (by kernel_rfl) (by kernel_rfl) (by kernel_rfl) (fun _ _ _ h => h) (Or.inl ⟨by rfl, ?_⟩) (by assumption) ?_
  rotate_left
  · intro w hSw
    (try dsimp only at hSw)
    (go_simp <;> (try with_reducible rfl))
  try simp only [Act.put, List.getElem_toArray, List.getElem_cons_zero, List.getElem_cons_succ, List.setIfInBounds_toArray, List.set_cons_zero, List.set_cons_succ]
  refine wpAnyH_take (i := 9) (v := ?_) rfl (by kernel_rfl) (by kernel_rfl) (by kernel_rfl) (fun _ _ _ h => h) (Or.inl ⟨by rfl, ?_⟩) (by assumption) ?_
  rotate_left
  · intro w hSw
    (try dsimp only at hSw)
    (go_simp <;> (try with_reducible rfl))
  try simp only [Act.put, List.getElem_toArray, List.getElem_cons_zero, List.getElem_cons_succ, List.setIfInBounds_toArray, List.set_cons_zero, List.set_cons_succ]
  refine wpAnyH_ready (rs := [8]) (by kernel_rfl) (by simp) ?_
  refine AllReadyH.cons rfl (fun K hK => ?_) AllReadyH.nil
  go_simp
  refine (HM.out _).mono ?_
  rintro e w' ⟨rfl, hb⟩
  have hst := And.intro (Ks.next hb hst.1) (Row.after hb hst.2)
  have hr2 := Row.after hb hr2
  clear hb
  try (go_wp2_with fail)
  refine hK.out _ _ (And.intro hst hr2) (fun hHeld => ?_)
  clear hK K
  try simp only [Act.put, List.getElem_toArray, List.getElem_cons_zero, List.getElem_cons_succ, List.setIfInBounds_toArray, List.set_cons_zero, List.set_cons_succ]
  refine wpAnyH_ready (rs := [10]) (by kernel_rfl) (by simp) ?_
  refine AllReadyH.cons rfl (fun K hK => ?_) AllReadyH.nil
  go_simp
  refine (HN.out _).mono ?_
  rintro e w' ⟨rfl, hb⟩
  have hst := And.intro (Ks.next hb hst.1) (Row.after hb hst.2)
  have hr2 := Row.after hb hr2
  clear hb
  try (go_wp2_with fail)
  refine hK.out _ _ (And.intro hst hr2) (fun hHeld => ?_)
  clear hK K
  try simp only [Act.put, List.getElem_toArray, List.getElem_cons_zero, List.getElem_cons_succ, List.setIfInBounds_toArray, List.set_cons_zero, List.set_cons_succ]
  refine wpAnyH_take (i := 11) (v := ?_) rfl (by kernel_rfl) (by kernel_rfl) (by kernel_rfl) (fun _ _ _ h => h) (Or.inl ⟨by rfl, ?_⟩) (by assumption) ?_
  rotate_left
  · intro w hSw
    (try dsimp only at hSw)
    (go_simp <;> (try with_reducible rfl))
  try simp only [Act.put, List.getElem_toArray, List.getElem_cons_zero, List.getElem_cons_succ, List.setIfInBounds_toArray, List.set_cons_zero, List.set_cons_succ]
  refine wpAnyH_take (i := 12) (v := ?_) rfl (by kernel_rfl) (by kernel_rfl) (by kernel_rfl) (fun _ _ _ h => h) (Or.inl ⟨by rfl, ?_⟩) (by assumption) ?_
  rotate_left
  · intro w hSw
    (try dsimp only at hSw)
    (go_simp <;> (try with_reducible rfl))
  try simp only [Act.put, List.getElem_toArray, List.getElem_cons_zero, List.getElem_cons_succ, List.setIfInBounds_toArray, List.set_cons_zero, List.set_cons_succ]
  refine wpAnyH_done (by kernel_rfl) ?_ _
  all_goals (
    have HST := Lib.hid hst.1
    have HRW := Lib.hid hst.2
    clear hst hcv hc2 hr2
    obtain ⟨c0, c1, c2, c3, c4, c5⟩ := HST.out.1
    go_wp2_with fail
    refine (HN.out _).mono ?_
    rintro e w9 ⟨rfl, hb9⟩
    have HB9 := Lib.hid (Ks.next hb9 HST.out)
    have HR9 := Lib.hid (HRW.out.below hb9)
    clear hb9 c0 c1 c2 c3 c4 c5 HST HRW
    go_wp2_with fail
    refine (HU.out _ _ _ HR9.out).mono ?_
    rintro e w10 ⟨rfl, hb10⟩
    have HB10 := Lib.hid (Ks.next ((Below.refl _ w10).alloc (Nat.le_refl _) (.cells #[.int .u64 hi, .int .u64 lo, .int .i64 kind, .int .i64 score, .int .i64 wk, .int .i64 age] 38)) (Ks.next hb10 HB9.out))
    clear hb10 HB9 HR9 HU
    go_wp2_with fail
    refine (live22_any _).mono ?_
    rintro e w11 ⟨rfl, hb11⟩
    have HB11 := Lib.hid (Ks.next hb11 HB10.out)
    have HX := Lib.hid ((Blk.new w10 38 #[.int .u64 hi, .int .u64 lo, .int .i64 kind, .int .i64 score, .int .i64 wk, .int .i64 age]).below hb11)
    clear hb11 HB10
    obtain ⟨c0, c1, c2, c3, c4, c5⟩ := HB11.out.1
    obtain ⟨d0, d1, d2, d3, d4, d5⟩ := HX.out.six
    go_wp2
    go_ret
    exact ⟨rfl, HB11.out.2⟩)
theorem slotPacks_walk (hi lo : Nat) (kind score work age : Int) (w : World) (hlo : lo < 18446744073709551616) : Calls Try.prog 12 #[.agg #[.int .u64 hi, .int .u64 lo, .int .i64 kind, .int .i64 score, .int .i64 work, .int .i64 age]] w fun e w' => e = .returned (.bool true) ∧ Below w.heap.size w w' := by
  cases hm : mayS ⟨hi, lo, kind, score, work, age⟩ with
  | false => exact slotPacks_no hi lo kind score work age w hm
  | true =>
    obtain ⟨wk, rfl⟩ := Int.eq_ofNat_of_zero_le (mayS_in hm).2.2.2.2.1
    exact slotPacks_yes hi lo kind score wk age w hlo hm
end Go.Proofs.Ytlndlcdamimbdaa
