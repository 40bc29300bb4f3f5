/- The walks of sums of bytes: bin's and the reference's. -/
import Derived.Test.YtlndlcdamimbdaaRdWalk
import Derived.Laws.BitsAllLaws
namespace Go.Proofs.Ytlndlcdamimbdaa
open Go.RowKit

theorem ret_u64 {a b : Int} (h : a = b) : Ending.returned (.int .u64 a) = .returned (.int .u64 b) := by rw [h]
theorem take_snocL (l : List Int) (k : Nat) (h : k < l.length) : l.take (k + 1) = l.take k ++ [l[k]] := by rw [List.take_succ_eq_append_getElem h]
theorem sum_step (l : List Int) (k : Nat) (h : k < l.length) (hk : k < 8) (hb : Byt l) : bits BinOp.or IntKind.u64 (sumL (l.take k)) (IntKind.u64.wrap (l[k] * 2 ^ (8 * k))) = (sumL (l.take (k + 1)) : Int) := by
  have hl := sumL_lt _ (hb.take k)
  rw [List.length_take, Nat.min_eq_left (by omega)] at hl
  obtain ⟨h0, h1⟩ := hb.get k h
  rw [take_snocL l k h, sumL_snoc, List.length_take, Nat.min_eq_left (by omega)]
  generalize l[k] = y at *
  obtain ⟨x, rfl⟩ := Int.eq_ofNat_of_zero_le h0
  generalize sumL (l.take k) = s at *
  have hp : (256 : Nat) ^ k = 2 ^ (8 * k) := by rw [Nat.pow_mul]
  rw [hp] at hl ⊢
  have h64 : x * 2 ^ (8 * k) < 18446744073709551616 := by
    have : 2 ^ (8 * k) ≤ 2 ^ 56 := Nat.pow_le_pow_right (by omega) (by omega)
    have : x * 2 ^ (8 * k) ≤ 255 * 2 ^ 56 := Nat.mul_le_mul (by omega) this
    omega
  have hs : s < 18446744073709551616 := by
    have : 2 ^ (8 * k) ≤ 2 ^ 56 := Nat.pow_le_pow_right (by omega) (by omega)
    omega
  have e1 : IntKind.u64.wrap ((x : Int) * 2 ^ (8 * k)) = ((x * 2 ^ (8 * k) : Nat) : Int) := by
    rw [IntWalk.u64_in]
    · simp
    · have : ((x : Int) * 2 ^ (8 * k)) = ((x * 2 ^ (8 * k) : Nat) : Int) := by simp
      rw [this]; omega
  rw [e1, u64_or_nat s _ hs h64]
  have := Nat.two_pow_add_eq_or_of_lt hl x
  rw [Nat.or_comm, Nat.mul_comm x, ← this, Int.toNat_natCast, Nat.mul_comm x, Nat.add_comm]

set_option maxHeartbeats 800000 in
theorem sum_any {w : World} {ad : Addr} {c : Nat} {l : List Int} (h : Row w .u8 (some ad) l) (hb : Byt l) (h8 : l.length ≤ 8) : Calls Try.prog 60 #[.slice (some ad) l.length c] w fun e w' => e = .returned (.int .u64 (sumL l)) ∧ w' = w := by
  have H := Lib.hid h
  have HB := Lib.hid hb
  clear h hb
  go_enter Try.func60, Try.ntmps60
  go_wp2
  go_loop [3, 8] (fun v i => ∃ k : Nat, k ≤ l.length ∧ i = .int .i64 k ∧ v = .int .u64 (sumL (l.take k))) (fun _ i => l.length - (intOf i).toNat)
  case atStart => exact ⟨0, by omega, rfl, rfl⟩
  case round =>
    obtain ⟨k, hk, rfl, rfl⟩ := hrel
    by_cases hlt : k < l.length
    · obtain ⟨ad', e, hc⟩ := H.out.2 k hlt
      injection e with e
      subst e
      obtain ⟨hb0, hb1⟩ := HB.out.get k hlt
      have HE := Lib.hid (sum_step l k hlt (by omega) HB.out)
      go_wp2
      go_round
      case rel => exact ⟨k + 1, by omega, by go_num, by rw [HE.out]⟩
      case measure => simp [intOf]; omega
    · obtain rfl : k = l.length := by omega
      go_wp2
      go_ret
      exact ⟨rfl, rfl⟩

set_option maxHeartbeats 400000 in
theorem sum_nil (w : World) : Calls Try.prog 60 #[.slice none 0 0] w fun e w' => e = .returned (.int .u64 0) ∧ w' = w := by
  go_enter Try.func60, Try.ntmps60
  go_wp2
  refine wp_loop_rounds 1 ?_
  rw [rounds_succ]
  go_wp2
  go_ret
  exact ⟨rfl, rfl⟩
/-- The reference's number: from the last byte on. -/
theorem sum_drop (l : List Int) (k : Nat) (h : k < l.length) : sumL (l.drop k) = 256 * sumL (l.drop (k + 1)) + l[k].toNat := by
  rw [List.drop_eq_getElem_cons h, sumL_cons]; omega
theorem sumL_lt8 (l : List Int) (hb : Byt l) (h8 : l.length ≤ 8) : sumL l < 18446744073709551616 := by
  have := sumL_lt l hb
  have h2 : 256 ^ l.length ≤ 256 ^ 8 := Nat.pow_le_pow_right (by omega) h8
  omega
theorem ref_step (l : List Int) (j : Nat) (h : j < l.length) (hb : Byt l) (h8 : l.length ≤ 8) : IntKind.u64.wrap (IntKind.u64.wrap (256 * (sumL (l.drop (j + 1)) : Int)) + l[j]) = (sumL (l.drop j) : Int) := by
  have h1 := sum_drop l j h
  have h2 := sumL_lt8 _ (hb.drop j) (by simp; omega)
  obtain ⟨h3, h4⟩ := hb.get j h
  generalize sumL (l.drop j) = a at *
  generalize sumL (l.drop (j + 1)) = b at *
  generalize l[j] = y at *
  rw [IntKind.wrap_u64, IntKind.wrap_u64]
  omega
set_option maxHeartbeats 800000 in
theorem refSum_any {w : World} {A : Option Addr} {c : Nat} {l : List Int} (h : Row w .u8 A l) (hb : Byt l) (h8 : l.length ≤ 8) : Calls Try.prog 64 #[.slice A l.length c] w fun e w' => e = .returned (.int .u64 (sumL l)) ∧ w' = w := by
  have H := Lib.hid h
  have HB := Lib.hid hb
  clear h hb
  go_enter Try.func64, Try.ntmps64
  go_wp2
  go_loop [3, 4] (fun v i => ∃ k : Nat, k ≤ l.length ∧ i = .int .i64 ((k : Int) - 1) ∧ v = .int .u64 (sumL (l.drop k))) (fun _ i => (intOf i + 1).toNat)
  case atStart => exact ⟨l.length, by omega, rfl, by rw [List.drop_length]; rfl⟩
  case round =>
    obtain ⟨k, hk, rfl, rfl⟩ := hrel
    by_cases hlt : 1 ≤ k
    · obtain ⟨j, rfl⟩ : ∃ j, k = j + 1 := ⟨k - 1, by omega⟩
      obtain ⟨ad', e, hc⟩ := H.out.2 j (by omega)
      subst e
      obtain ⟨hb0, hb1⟩ := HB.out.get j (by omega)
      have HE := Lib.hid (ref_step l j (by omega) HB.out h8)
      go_wp2
      go_round
      case rel => exact ⟨j, by omega, by go_num, by rw [HE.out]⟩
      case measure => simp [intOf]
    · obtain rfl : k = 0 := by omega
      go_wp2
      go_ret
      exact ⟨rfl, rfl⟩
end Go.Proofs.Ytlndlcdamimbdaa
