/- The walk of the law SlotPacks. -/
import Derived.Test.YtlndlcdamimbdaaUnpackW
import Derived.Test.YtlndlcdamimbdaaRefPack
import Derived.Test.YtlndlcdamimbdaaPackNo
import Derived.Test.YtlndlcdamimbdaaSlotLive
import Derived.Deep.RegionHeld3
namespace Go.Proofs.Ytlndlcdamimbdaa
open Go.RowKit

theorem mayS_in {hi lo : Nat} {kind score work age : Int} (hm : mayS ⟨hi, lo, kind, score, work, age⟩ = true) : 0 ≤ kind ∧ kind ≤ 3 ∧ -32 ≤ score ∧ score ≤ 32 ∧ 0 ≤ work ∧ work < 2147483648 ∧ 0 ≤ age ∧ age < 256 ∧ hi < 256 := by
  have h := of_decide_eq_true hm
  simp only at h
  omega
theorem packL_eq (hi lo : Nat) (kind score : Int) (wk : Nat) (age : Int) (h : mayS ⟨hi, lo, kind, score, wk, age⟩ = true) : packL hi lo kind score wk age = fixL lo 8 ++ ([(hi : Int), kind, score + 32] ++ (fixL wk 4 ++ [age])) := by
  obtain ⟨h1, h2, h3, h4, h5, h6, h7, h8, h9⟩ := mayS_in h
  unfold packL
  rw [IntWalk.i64_in (score + 32) ⟨by omega, by omega⟩]
  simp only [IntKind.wrap_u8]
  rw [show kind % 256 = kind by omega, show (score + 32) % 256 = score + 32 by omega, show age % 256 = age by omega]
  simp
theorem packL_len (hi lo : Nat) (kind score : Int) (wk : Nat) (age : Int) : (packL hi lo kind score wk age).length = 16 := by
  simp [packL, fixL_length]
theorem byt_one {x : Int} (h0 : 0 ≤ x) (h1 : x < 256) : Byt [x] := by
  intro y hy
  simp only [List.mem_singleton] at hy
  subst hy
  exact ⟨h0, h1⟩
theorem byt_packL (hi lo : Nat) (kind score : Int) (wk : Nat) (age : Int) (h : mayS ⟨hi, lo, kind, score, wk, age⟩ = true) : Byt (packL hi lo kind score wk age) := by
  rw [packL_eq hi lo kind score wk age h]
  obtain ⟨h1, h2, h3, h4, h5, h6, h7, h8, h9⟩ := mayS_in h
  refine (byt_fixL _ _).append (Byt.append ?_ ((byt_fixL _ _).append (byt_one h7 h8)))
  intro y hy
  simp only [List.mem_cons, List.not_mem_nil, or_false] at hy
  omega
theorem unp_pack (hi lo : Nat) (kind score : Int) (wk : Nat) (age : Int) (hlo : lo < 18446744073709551616) (h : mayS ⟨hi, lo, kind, score, wk, age⟩ = true) : unpS (packL hi lo kind score wk age) = ⟨hi, lo, kind, score, wk, age⟩ := by
  rw [packL_eq hi lo kind score wk age h]
  obtain ⟨h1, h2, h3, h4, h5, h6, h7, h8, h9⟩ := mayS_in h
  have e1 : (fixL lo 8 ++ ([(hi : Int), kind, score + 32] ++ (fixL wk 4 ++ [age]))).take 8 = fixL lo 8 := by
    rw [List.take_append_of_le_length (by rw [fixL_length]; exact Nat.le_refl _), List.take_of_length_le (by rw [fixL_length]; exact Nat.le_refl _)]
  have e2 : ∀ k, (fixL lo 8 ++ ([(hi : Int), kind, score + 32] ++ (fixL wk 4 ++ [age]))).getD (8 + k) 0 = ([(hi : Int), kind, score + 32] ++ (fixL wk 4 ++ [age])).getD k 0 := by
    intro k
    rw [List.getD_eq_getElem?_getD, List.getElem?_append_right (by rw [fixL_length]; omega), fixL_length, List.getD_eq_getElem?_getD]
    congr 2
    omega
  have e3 : ((fixL lo 8 ++ ([(hi : Int), kind, score + 32] ++ (fixL wk 4 ++ [age]))).drop 11).take 4 = fixL wk 4 := by
    have : (fixL lo 8 ++ ([(hi : Int), kind, score + 32] ++ (fixL wk 4 ++ [age]))).drop 11 = fixL wk 4 ++ [age] := by
      rw [show 11 = (fixL lo 8).length + 3 by rw [fixL_length], List.drop_append]
      rfl
    rw [this, List.take_append_of_le_length (by rw [fixL_length]; exact Nat.le_refl _), List.take_of_length_le (by rw [fixL_length]; exact Nat.le_refl _)]
  have e4 : ([(hi : Int), kind, score + 32] ++ (fixL wk 4 ++ [age])).getD 7 0 = age := by
    rw [← List.append_assoc, List.getD_eq_getElem?_getD, List.getElem?_append_right (by simp [fixL_length])]
    simp [fixL_length]
  unfold unpS
  rw [e1, e3, e2 0, e2 1, e2 2, e2 7, e4, sumL_fixL, sumL_fixL, Nat.mod_eq_of_lt (by simpa using hlo), Nat.mod_eq_of_lt (by omega)]
  simp only [List.cons_append, List.getD_cons_zero, List.getD_cons_succ, Int.toNat_natCast]
  congr 1 <;> omega

end Go.Proofs.Ytlndlcdamimbdaa
