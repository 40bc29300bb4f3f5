/- The walk of the reference's Key. -/
import Derived.Test.YtlndlcdamimbdaaRefFixed
namespace Go.Proofs.Ytlndlcdamimbdaa
open Go.RowKit

set_option maxRecDepth 100000 in
set_option maxHeartbeats 1600000 in
theorem refKey_yes (hi lo : Nat) (w : World) (h : hi < 256) (hlo : lo < 18446744073709551616) : Calls Try.prog 37 #[.agg #[.int .u64 hi, .int .u64 lo]] w fun e w' => ∃ g cp, w.heap.size ≤ g ∧ e = .returned (.slice (some ⟨g, 0, none⟩) 9 cp) ∧ OwnRow w' 5 .u8 g cp (fixL lo 8 ++ [(hi : Int)]) ∧ Below w.heap.size w w' := by
  have HF : Hid (∀ w : World, Calls Try.prog 33 #[.int .u64 lo, .int .i64 8] w fun e w' => ∃ g cp, w.heap.size ≤ g ∧ e = .returned (.slice (some ⟨g, 0, none⟩) 8 cp) ∧ OwnRow w' 5 .u8 g cp (fixL lo 8) ∧ Below w.heap.size w w') := fun w => refFixed_yes lo 8 w (by omega) (by omega) hlo (Nat.div_eq_of_lt (by simpa using hlo))
  clear hlo
  have hk0 := Blk.new w 35 #[.int .u64 hi, .int .u64 lo]
  have HK := Lib.hid hk0
  clear hk0
  have hge : decide ((256 : Int) ≤ hi) = false := decide_eq_false (by omega)
  go_enter Try.func37, Try.ntmps37
  go_wp2_with fail
  go_region_held3 (fun w' => w'.cell? ⟨w.heap.size, 0, none⟩ = some (.int .u64 hi) ∧ w'.cell? ⟨w.heap.size, 1, none⟩ = some (.int .u64 lo)) (first | exact hst.two | exact HK.out.two | exact (HK.out.alloc _).two | exact (Blk.after hb HK.out).two | exact ((Blk.after hb HK.out).alloc _).two | exact (Blk.after hb (HK.out.alloc _)).two) (first
    | (go_at_call 33; refine (HF.out _).mono ?_; rintro e w' ⟨g, cp, hg, rfl, hown, hb⟩)
    | (refine step_append_rows rfl (.tmp 8) (.tmp 12) rfl w.heap.size g cp 8 1 (fixL lo 8) [IntKind.u8.wrap hi] (fixL_length _ _) rfl (by simp [Act.eval]) (by first | exact hown.alloc _ | exact hown) (by simp at hg; omega) (by have := hb.size; simp at this ⊢; omega) ⟨_, 0, none⟩ 1 (by simp [Act.eval]; rfl) (by first | exact Row.new _ .u8 [_] 5 (0, 0) (by simp) | exact Row.after hb (one_row w _ _)) (by omega) (by omega) ?_; intro g' cp' w2 hown2 hg2 hgrow
       have hne : w.heap.size ≠ g := by simp at hg; omega
       have hst : Blk w2 w.heap.size 35 #[.int .u64 hi, .int .u64 lo] := by first | exact Blk.grew hgrow hne ((Blk.after hb HK.out).alloc _) | exact Blk.grew hgrow hne (Blk.after hb (HK.out.alloc _))
       have hB : Below w.heap.size w w2 := by
         refine Below.grown (w := _) ?_ hgrow ?_ ?_
         · first | exact (below_via hb ((Below.refl _ w).alloc (Nat.le_refl _) _).drew).alloc (by have := hb.size; simp at this; omega) _ | exact below_via hb (((Below.refl _ w).alloc (Nat.le_refl _) _).alloc (by simp) _).drew
         · have := hb.size; simp at this ⊢; omega
         · intro r hr; simp at hr hg; omega
       clear hown hg hb hgrow hne))
  all_goals have HO := Lib.hid hown2
  all_goals have HB := Lib.hid hB
  all_goals have HW := Lib.hid (wrap_u8 hi h)
  all_goals clear hown2 hB hst HK HF
  all_goals go_wp2
  all_goals go_ret
  all_goals exact ⟨g', cp', hg2, rfl, by rw [← HW.out]; exact HO.out, HB.out⟩
end Go.Proofs.Ytlndlcdamimbdaa
