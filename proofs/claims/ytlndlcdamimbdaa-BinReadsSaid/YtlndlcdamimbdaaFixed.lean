/- The walk of bin's Fixed. -/
import Derived.Test.YtlndlcdamimbdaaSlot
import Derived.Lib.SmallJoins
import Derived.Deep.OwnRows
namespace Go.Proofs.Ytlndlcdamimbdaa
open Go.RowKit

/-- A number's lowest n bytes, the lowest first. -/
def fixL (v n : Nat) : List Int := (List.range n).map fun i => (v : Int) / 2 ^ (8 * i) % 256
theorem fixL_length (v n : Nat) : (fixL v n).length = n := by simp [fixL]
theorem fixL_succ (v n : Nat) : fixL v (n + 1) = fixL v n ++ [(v : Int) / 2 ^ (8 * n) % 256] := by simp [fixL, List.range_succ]
theorem fix_step (v n i : Nat) (h : i < n) : fixL v (i + 1) ++ List.replicate (n - (i + 1)) 0 = (fixL v i ++ List.replicate (n - i) 0).set i ((v : Int) / 2 ^ (8 * i) % 256) := by
  rw [List.set_append_right _ _ (by rw [fixL_length]; exact Nat.le_refl _), fixL_length, Nat.sub_self, fixL_succ, show n - i = (n - (i + 1)) + 1 by omega, List.replicate_succ, List.set_cons_zero, List.append_assoc]
  rfl
theorem made_row (n : Nat) (w : World) (h : n ≤ 100) (v : Nat) : Hid (OwnRow (w.alloc (.cells (madeCells #[.int .u8 0] n) 5)) 5 .u8 w.heap.size n (fixL v 0 ++ List.replicate (n - 0) 0)) := by
  refine Lib.hid ⟨_, heap_alloc_new w _, by simp [fixL], by unfold maxLen; omega, by simp [size_madeCells], ?_⟩
  simp [fixL, toList_madeCells_one]

set_option maxHeartbeats 1600000 in
theorem fixed_yes (v n : Nat) (w : World) (h1 : 1 ≤ n) (h8 : n ≤ 8) (hf : n = 8 ∨ v < 2 ^ (8 * n)) : Calls Try.prog 32 #[.int .u64 v, .int .i64 n] w fun e w' => ∃ g cp, w.heap.size ≤ g ∧ e = .returned (.slice (some ⟨g, 0, none⟩) n cp) ∧ OwnRow w' 5 .u8 g cp (fixL v n) ∧ Below w.heap.size w w' := by
  have hle8 : ((8 : Int) < n) = False := by apply propext; constructor; omega; exact False.elim
  have hge1 : ((n : Int) < 1) = False := by apply propext; constructor; omega; exact False.elim
  by_cases hn : (n : Int) < 8
  · have hz : ((v : Int) / 2 ^ (8 * n) != 0) = false := by
      have : v / 2 ^ (8 * n) = 0 := Nat.div_eq_of_lt (by omega)
      have h2 : ((v : Int) / 2 ^ (8 * n)) = ((v / 2 ^ (8 * n) : Nat) : Int) := by simp
      rw [h2, this]; rfl
    clear hf
    have hmk : ∀ w : World, (Instr.makeSlice 49 (.int .i64 (n : Int)) (.int .i64 (n : Int))).run Try.prog w = .ok (.slice (some ⟨w.heap.size, 0, none⟩) n n) (w.alloc (.cells (madeCells #[.int .u8 0] n) 5)) := fun w => run_make_row' 49 5 (.int .u8 0) 1 Try.underlying49 (by kernel_rfl) rfl .i64 .i64 n (by omega) (by omega) w
    go_enter Try.func32, Try.ntmps32
    go_wp2
    clear hmk
    go_loopw [29] (fun x wr => ∃ i : Nat, i ≤ n ∧ x = .int .i64 i ∧ Hid (OwnRow wr 5 .u8 w.heap.size n (fixL v i ++ List.replicate (n - i) 0)) ∧ Below w.heap.size w wr) (fun x _ => n - (intOf x).toNat)
    case atStart => exact ⟨0, by omega, rfl, made_row n w (by omega) v, (Below.refl _ w).alloc (Nat.le_refl _) _⟩
    case round =>
      obtain ⟨i, hi, rfl, HV, HB⟩ := hrel
      by_cases hlt : i < n
      · have hc0 := HV.out.getElem i (by rw [List.length_append, fixL_length, List.length_replicate]; omega)
        have hfz := HV.out.free i
        have HS : Hid (OwnRow (wr.setCell ⟨w.heap.size, i, none⟩ (.int .u8 ((v : Int) / 2 ^ (8 * i) % 256))) 5 .u8 w.heap.size n (fixL v (i + 1) ++ List.replicate (n - (i + 1)) 0)) := by
          rw [fix_step v n i hlt]; exact HV.out.set _ _
        have HB2 : Below w.heap.size w (wr.setCell ⟨w.heap.size, i, none⟩ (.int .u8 ((v : Int) / 2 ^ (8 * i) % 256))) := HB.setCell (Nat.le_refl _) _
        clear HV HB
        go_wp2
        go_roundw
        case rel => exact ⟨i + 1, by omega, by go_num, HS, HB2⟩
        case measure => simp [intOf]; omega
      · obtain rfl : i = n := by omega
        go_wp2
        go_ret
        exact ⟨w.heap.size, i, Nat.le_refl _, rfl, by have := HV.out; simpa using this, HB⟩
  · have hn' : ((n : Int) < 8) = False := eq_false hn
    clear hf
    have hmk : ∀ w : World, (Instr.makeSlice 49 (.int .i64 (n : Int)) (.int .i64 (n : Int))).run Try.prog w = .ok (.slice (some ⟨w.heap.size, 0, none⟩) n n) (w.alloc (.cells (madeCells #[.int .u8 0] n) 5)) := fun w => run_make_row' 49 5 (.int .u8 0) 1 Try.underlying49 (by kernel_rfl) rfl .i64 .i64 n (by omega) (by omega) w
    go_enter Try.func32, Try.ntmps32
    go_wp2
    clear hmk
    go_loopw [29] (fun x wr => ∃ i : Nat, i ≤ n ∧ x = .int .i64 i ∧ Hid (OwnRow wr 5 .u8 w.heap.size n (fixL v i ++ List.replicate (n - i) 0)) ∧ Below w.heap.size w wr) (fun x _ => n - (intOf x).toNat)
    case atStart => exact ⟨0, by omega, rfl, made_row n w (by omega) v, (Below.refl _ w).alloc (Nat.le_refl _) _⟩
    case round =>
      obtain ⟨i, hi, rfl, HV, HB⟩ := hrel
      by_cases hlt : i < n
      · have hc0 := HV.out.getElem i (by rw [List.length_append, fixL_length, List.length_replicate]; omega)
        have hfz := HV.out.free i
        have HS : Hid (OwnRow (wr.setCell ⟨w.heap.size, i, none⟩ (.int .u8 ((v : Int) / 2 ^ (8 * i) % 256))) 5 .u8 w.heap.size n (fixL v (i + 1) ++ List.replicate (n - (i + 1)) 0)) := by
          rw [fix_step v n i hlt]; exact HV.out.set _ _
        have HB2 : Below w.heap.size w (wr.setCell ⟨w.heap.size, i, none⟩ (.int .u8 ((v : Int) / 2 ^ (8 * i) % 256))) := HB.setCell (Nat.le_refl _) _
        clear HV HB
        go_wp2
        go_roundw
        case rel => exact ⟨i + 1, by omega, by go_num, HS, HB2⟩
        case measure => simp [intOf]; omega
      · obtain rfl : i = n := by omega
        go_wp2
        go_ret
        exact ⟨w.heap.size, i, Nat.le_refl _, rfl, by have := HV.out; simpa using this, HB⟩
end Go.Proofs.Ytlndlcdamimbdaa
