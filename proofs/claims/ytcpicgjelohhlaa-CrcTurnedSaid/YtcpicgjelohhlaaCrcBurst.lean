/- Bits that are turned within 32 in a row are found: the checks of the bytes and of the turned bytes are one only where the bytes are. -/
import Derived.Test.YtcpicgjelohhlaaCrcTurn
namespace Go.Proofs.Ytcpicgjelohhlaa
open Go.RowKit

theorem getD_set (l : List Nat) (j x i : Nat) (hj : j < l.length) : (l.set j x).getD i 0 = if i = j then x else l.getD i 0 := by
  rw [List.getD_eq_getElem?_getD, List.getD_eq_getElem?_getD, List.getElem?_set]
  by_cases h : j = i
  · subst h; simp [hj]
  · simp [h, Ne.symm h]

/-- Which bits Turn has turned behind k rounds. -/
theorem turnB_bits (bs : List Nat) (a n : Nat) : ∀ k i, i < 8 * bs.length → bitsOf (turnB bs a n k) i = (bitsOf bs i ^^ (decide (a ≤ i ∧ i < a + k) && n.testBit (i - a)))
  | 0, i, _ => by
    have : ¬ (a ≤ i ∧ i < a + 0) := by omega
    show bitsOf bs i = _
    rw [decide_eq_false this]
    simp
  | k + 1, i, hi => by
    have ih := turnB_bits bs a n k i hi
    unfold turnB
    by_cases hc : n.testBit k = true ∧ a + k < 8 * bs.length
    · rw [if_pos hc]
      have hj : (a + k) / 8 < (turnB bs a n k).length := by rw [turnB_length]; omega
      by_cases h : i = a + k
      · subst h
        have h1 : ¬ (a ≤ a + k ∧ a + k < a + k) := by omega
        have h2 : (a ≤ a + k ∧ a + k < a + (k + 1)) := by omega
        simp only [h1, decide_false, Bool.false_and, Bool.xor_false] at ih
        simp only [h2, and_self, decide_true, Bool.true_and, Nat.add_sub_cancel_left, hc.1]
        rw [← ih]
        unfold bitsOf
        rw [getD_set _ _ _ _ hj, if_pos rfl, Nat.testBit_xor, Nat.testBit_two_pow_self]
      · have e : bitsOf ((turnB bs a n k).set ((a + k) / 8) ((turnB bs a n k).getD ((a + k) / 8) 0 ^^^ 2 ^ ((a + k) % 8))) i = bitsOf (turnB bs a n k) i := by
          unfold bitsOf
          rw [getD_set _ _ _ _ hj]
          by_cases h8 : i / 8 = (a + k) / 8
          · rw [if_pos h8, Nat.testBit_xor, Nat.testBit_two_pow, h8]
            have : ¬ ((a + k) % 8 = i % 8) := by omega
            simp [this]
          · rw [if_neg h8]
        rw [e, ih]
        congr 2
        exact decide_eq_decide.2 (by omega)
    · rw [if_neg hc, ih]
      by_cases h : i = a + k
      · subst h
        have hb : n.testBit k = false := by
          cases hb : n.testBit k with
          | false => rfl
          | true => exact absurd ⟨hb, hi⟩ hc
        simp [hb]
      · congr 2
        exact decide_eq_decide.2 (by omega)

/-- Bytes with the same bits are the same. -/
theorem bytes_ext {xs bs : List Nat} (hl : xs.length = bs.length) (hx : ∀ b ∈ xs, b < 256) (hb : ∀ b ∈ bs, b < 256) (h : ∀ i, i < 8 * bs.length → bitsOf xs i = bitsOf bs i) : xs = bs := by
  apply List.ext_getElem hl
  intro j h1 h2
  apply Nat.eq_of_testBit_eq
  intro i
  by_cases hi : i < 8
  · have := h (8 * j + i) (by omega)
    unfold bitsOf at this
    have e1 : (8 * j + i) / 8 = j := by omega
    have e2 : (8 * j + i) % 8 = i := by omega
    rw [e1, e2, List.getD_eq_getElem?_getD, List.getD_eq_getElem?_getD, List.getElem?_eq_getElem h1, List.getElem?_eq_getElem h2] at this
    exact this
  · have f : ∀ b : Nat, b < 256 → b.testBit i = false := fun b hb => Nat.testBit_lt_two_pow (Nat.lt_of_lt_of_le hb (Nat.pow_le_pow_right (n := 2) (i := 8) (by decide) (by omega)))
    rw [f _ (hx _ (List.getElem_mem h1)), f _ (hb _ (List.getElem_mem h2))]

theorem burst (bs : List Nat) (hb : ∀ b ∈ bs, b < 256) (a n : Nat) (hn : n < 4294967296) (ha : a < 8 * bs.length) (h : checkN 0 (turnB bs a n 32) = checkN 0 bs) : turnB bs a n 32 = bs := by
  have hl := turnB_length bs a n 32
  have hbits := turnB_bits bs a n 32
  have hlt := turnB_lt hb a n 32
  generalize turnB bs a n 32 = xs at *
  unfold checkN at h
  rw [hl] at h
  have h1 : rS (bitsOf xs) (0 ^^^ 4294967295) (8 * bs.length) = rS (bitsOf bs) (0 ^^^ 4294967295) (8 * bs.length) := by
    have := congrArg (· ^^^ 4294967295) h
    simpa [Nat.xor_assoc] using this
  let δ : Nat → Bool := fun i => bitsOf xs i ^^ bitsOf bs i
  have h2 : rS (bitsOf xs) (0 ^^^ 4294967295) (8 * bs.length) = rS (bitsOf bs) (0 ^^^ 4294967295) (8 * bs.length) ^^^ rS δ 0 (8 * bs.length) := by
    rw [← rS_xor, Nat.xor_zero]
    apply rS_congr
    intro i _
    show _ = (bitsOf bs i ^^ (bitsOf xs i ^^ bitsOf bs i))
    cases bitsOf bs i <;> cases bitsOf xs i <;> rfl
  have h3 : rS δ 0 (8 * bs.length) = 0 := by
    rw [h1] at h2
    have := congrArg (rS (bitsOf bs) (0 ^^^ 4294967295) (8 * bs.length) ^^^ ·) h2
    simp only [← Nat.xor_assoc, Nat.xor_self, Nat.zero_xor] at this
    exact this.symm
  have hδ : ∀ i, i < 8 * bs.length → δ i = (decide (a ≤ i ∧ i < a + 32) && n.testBit (i - a)) := by
    intro i hi
    show (bitsOf xs i ^^ bitsOf bs i) = _
    rw [hbits i hi]
    cases bitsOf bs i <;> simp
  -- ahead of the window
  have w1 : rS δ 0 a = 0 := by
    have := rS_window δ 0 0 0 a (fun i hi => by
      have hno : ¬ (a ≤ 0 + i ∧ 0 + i < a + 32) := by omega
      rw [hδ _ (by omega), decide_eq_false hno]
      simp)
    simpa [rS, tK_zero] using this
  -- the window
  let k := min 32 (8 * bs.length - a)
  have hk : k ≤ 32 ∧ a + k ≤ 8 * bs.length := by
    show min 32 _ ≤ 32 ∧ a + min 32 _ ≤ _
    omega
  have w2 : rS δ 0 (a + k) = tK k (n % 2 ^ k) := by
    have := rS_window δ 0 a n k (fun i hi => by
      have hyes : (a ≤ a + i ∧ a + i < a + 32) := by omega
      rw [hδ _ (by omega)]
      simp [hyes])
    rwa [w1, Nat.zero_xor] at this
  -- behind it
  have w3 : rS δ 0 (a + k + (8 * bs.length - (a + k))) = tK (8 * bs.length - (a + k)) (tK k (n % 2 ^ k)) := by
    have := rS_window δ 0 (a + k) 0 (8 * bs.length - (a + k)) (fun i hi => by
      have hno : ¬ (a ≤ a + k + i ∧ a + k + i < a + 32) := by
        have : k = min 32 (8 * bs.length - a) := rfl
        omega
      rw [hδ _ (by omega), decide_eq_false hno]
      simp)
    rw [w2] at this
    simpa using this
  have e : a + k + (8 * bs.length - (a + k)) = 8 * bs.length := by omega
  rw [e, h3] at w3
  have hlt2 : n % 2 ^ k < 4294967296 := Nat.lt_of_le_of_lt (Nat.mod_le _ _) hn
  have hz : n % 2 ^ k = 0 := tK_inj hlt2 k (tK_inj (tK_lt hlt2 k) _ w3.symm)
  refine bytes_ext hl hlt hb fun i hi => ?_
  rw [hbits i hi]
  by_cases hin : a ≤ i ∧ i < a + 32
  · have hik : i - a < k := by
      have : k = min 32 (8 * bs.length - a) := rfl
      omega
    have ht : n.testBit (i - a) = false := by
      have := Nat.testBit_mod_two_pow n k (i - a)
      rw [hz] at this
      simpa [hik] using this
    simp [ht]
  · simp [hin]
end Go.Proofs.Ytcpicgjelohhlaa
