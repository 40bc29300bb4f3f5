/- The walks of slot's Pack and of the reference's, where the slot may not be. -/
import Derived.Test.YtlndlcdamimbdaaSlot
import Derived.Lib.SmallJoins
namespace Go.Proofs.Ytlndlcdamimbdaa
open Go.RowKit

theorem pack_no (s : Sl) (w : World) (hm : mayS s = false) : Calls Try.prog 49 #[s.val] w fun e w' => e = .returned (.slice none 0 0) ∧ Below w.heap.size w w' := by
  have HM := Lib.hid (may_any s)
  obtain ⟨hi, lo, kind, score, work, age⟩ := s
  go_enter Try.func49, Try.ntmps49
  go_wp2_with fail
  refine (HM.out _).mono ?_
  rintro e w1 ⟨rfl, hb1⟩
  rw [hm]
  have HB1 := Lib.hid (((Below.refl _ w).alloc (Nat.le_refl _) _).trans (hb1.mono (by simp)))
  clear hb1 HM hm
  go_wp2
  go_ret
  exact ⟨rfl, HB1.out⟩
theorem refPack_no (s : Sl) (w : World) (hm : mayS s = false) : Calls Try.prog 50 #[s.val] w fun e w' => e = .returned (.slice none 0 0) ∧ Below w.heap.size w w' := by
  have HM := Lib.hid (refMay22_any s)
  obtain ⟨hi, lo, kind, score, work, age⟩ := s
  go_enter Try.func50, Try.ntmps50
  go_wp2_with fail
  refine (HM.out _).mono ?_
  rintro e w1 ⟨rfl, hb1⟩
  rw [hm]
  have HB1 := Lib.hid (((Below.refl _ w).alloc (Nat.le_refl _) _).trans (hb1.mono (by simp)))
  clear hb1 HM hm
  go_wp2
  go_ret
  exact ⟨rfl, HB1.out⟩
end Go.Proofs.Ytlndlcdamimbdaa
