/- Plain numbers: the check's step on registers below 2^32, its linearity, and windows of bits. No program in sight. -/
namespace Go.Proofs.Ytcpicgjelohhlaa

/-- One step without an incoming bit. -/
def tN (n : Nat) : Nat := (n / 2) ^^^ (if n % 2 = 1 then 3988292384 else 0)
def tK : Nat → Nat → Nat
  | 0, n => n
  | k + 1, n => tN (tK k n)

theorem tN_lt {n : Nat} (h : n < 4294967296) : tN n < 4294967296 := by
  unfold tN
  have h1 : n / 2 < 2 ^ 32 := by omega
  have h2 : (if n % 2 = 1 then 3988292384 else 0) < 2 ^ 32 := by split <;> decide
  exact Nat.xor_lt_two_pow h1 h2
theorem tK_lt {n : Nat} (h : n < 4294967296) : ∀ k, tK k n < 4294967296
  | 0 => h
  | k + 1 => tN_lt (tK_lt h k)

theorem xor_div2 (a b : Nat) : (a ^^^ b) / 2 = (a / 2) ^^^ (b / 2) := by
  apply Nat.eq_of_testBit_eq
  intro i
  simp [Nat.testBit_div_two]
theorem xor_mod2 (a b : Nat) : (a ^^^ b) % 2 = (a % 2) ^^^ (b % 2) := by
  apply Nat.eq_of_testBit_eq
  intro i
  have h := fun n : Nat => Nat.testBit_mod_two_pow n 1 i
  simp only [Nat.pow_one] at h
  rw [h, Nat.testBit_xor, Nat.testBit_xor, h, h]
  by_cases hi : i < 1 <;> simp [hi]
theorem mask_xor (a b : Nat) : (if (a ^^^ b) % 2 = 1 then 3988292384 else 0) = (if a % 2 = 1 then 3988292384 else 0) ^^^ (if b % 2 = 1 then 3988292384 else 0) := by
  rw [xor_mod2]
  rcases Nat.mod_two_eq_zero_or_one a with h | h <;> rcases Nat.mod_two_eq_zero_or_one b with h' | h' <;> simp [h, h']
theorem xor4 (a b c d : Nat) : (a ^^^ b) ^^^ (c ^^^ d) = (a ^^^ c) ^^^ (b ^^^ d) := by
  apply Nat.eq_of_testBit_eq
  intro i
  simp only [Nat.testBit_xor]
  cases a.testBit i <;> cases b.testBit i <;> cases c.testBit i <;> cases d.testBit i <;> rfl
theorem tN_xor (a b : Nat) : tN (a ^^^ b) = tN a ^^^ tN b := by
  unfold tN
  rw [xor_div2, mask_xor, xor4]
theorem tK_xor (a b : Nat) : ∀ k, tK k (a ^^^ b) = tK k a ^^^ tK k b
  | 0 => rfl
  | k + 1 => by simp only [tK]; rw [tK_xor a b k, tN_xor]
theorem tN_zero : tN 0 = 0 := rfl
theorem tK_zero : ∀ k, tK k 0 = 0
  | 0 => rfl
  | k + 1 => by simp only [tK]; rw [tK_zero k]; rfl
theorem tK_comm (n : Nat) : ∀ k, tK (k + 1) n = tK k (tN n)
  | 0 => rfl
  | k + 1 => by
    show tN (tK (k + 1) n) = tN (tK k (tN n))
    rw [tK_comm n k]
theorem tN_pow (k : Nat) : tN (2 ^ (k + 1)) = 2 ^ k := by
  unfold tN
  rw [Nat.pow_succ]
  simp
theorem tK_pow : ∀ k, tK k (2 ^ k) = 1
  | 0 => rfl
  | k + 1 => by rw [tK_comm, tN_pow, tK_pow k]
/-- Nothing but zero is turned to zero. -/
theorem tN_inj {n : Nat} (h : n < 4294967296) (h0 : tN n = 0) : n = 0 := by
  unfold tN at h0
  by_cases h1 : n % 2 = 1
  · rw [if_pos h1] at h0
    have : (n / 2) = 3988292384 := by
      have e : (n / 2) ^^^ 3988292384 ^^^ 3988292384 = 0 ^^^ 3988292384 := by rw [h0]
      rwa [Nat.xor_assoc, Nat.xor_self, Nat.xor_zero, Nat.zero_xor] at e
    omega
  · rw [if_neg h1, Nat.xor_zero] at h0
    omega
theorem tK_inj {n : Nat} (h : n < 4294967296) : ∀ k, tK k n = 0 → n = 0
  | 0, h0 => h0
  | k + 1, h0 => tK_inj h k (tN_inj (tK_lt h k) h0)

/-- The register behind k bits of a stream. -/
def rS (β : Nat → Bool) (x : Nat) : Nat → Nat
  | 0 => x
  | k + 1 => tN (rS β x k ^^^ (β k).toNat)
theorem rS_lt {β : Nat → Bool} {x : Nat} (h : x < 4294967296) : ∀ k, rS β x k < 4294967296
  | 0 => h
  | k + 1 => tN_lt (by
    have h1 : rS β x k < 2 ^ 32 := rS_lt h k
    have h2 : (β k).toNat < 2 ^ 32 := by cases β k <;> decide
    exact Nat.xor_lt_two_pow h1 h2)
/-- Bits of a number in a window of the stream: as if the number had been held against the register ahead of it. -/
theorem rS_window (β : Nat → Bool) (x j e : Nat) : ∀ k, (∀ i, i < k → β (j + i) = e.testBit i) → rS β x (j + k) = tK k (rS β x j ^^^ e % 2 ^ k)
  | 0, _ => by simp [tK, Nat.mod_one]
  | k + 1, h => by
    show tN (rS β x (j + k) ^^^ (β (j + k)).toNat) = tN (tK k _)
    rw [rS_window β x j e k (fun i hi => h i (by omega)), h k (by omega)]
    have hm : e % 2 ^ (k + 1) = e % 2 ^ k ^^^ (e.testBit k).toNat * 2 ^ k := by
      apply Nat.eq_of_testBit_eq
      intro i
      rw [Nat.testBit_xor, Nat.testBit_mod_two_pow, Nat.testBit_mod_two_pow]
      cases hb : e.testBit k with
      | false =>
        simp
        by_cases hi : i = k
        · subst hi; simp [hb]
        · by_cases h1 : i < k
          · simp [h1, Nat.lt_succ_of_lt h1]
          · have : ¬ i < k + 1 := by omega
            simp [h1, this]
      | true =>
        simp [Nat.testBit_two_pow]
        by_cases hi : i = k
        · subst hi; simp [hb]
        · by_cases h1 : i < k
          · simp [h1, Nat.lt_succ_of_lt h1, Ne.symm hi]
          · have : ¬ i < k + 1 := by omega
            simp [h1, this, Ne.symm hi]
    have hb : (e.testBit k).toNat = tK k ((e.testBit k).toNat * 2 ^ k) := by
      cases e.testBit k
      · simp [tK_zero]
      · simp [tK_pow]
    rw [hm, ← Nat.xor_assoc, tK_xor _ ((e.testBit k).toNat * 2 ^ k), ← hb]
/-- Two streams: the registers differ by what the difference of the streams makes. -/
theorem rS_xor (β δ : Nat → Bool) (x y : Nat) : ∀ k, rS (fun i => β i ^^ δ i) (x ^^^ y) k = rS β x k ^^^ rS δ y k
  | 0 => rfl
  | k + 1 => by
    show tN (rS (fun i => β i ^^ δ i) (x ^^^ y) k ^^^ (β k ^^ δ k).toNat) = tN _ ^^^ tN _
    rw [rS_xor β δ x y k, ← tN_xor]
    congr 1
    have : (β k ^^ δ k).toNat = (β k).toNat ^^^ (δ k).toNat := by cases β k <;> cases δ k <;> rfl
    rw [this, xor4]
theorem rS_congr {β γ : Nat → Bool} (x : Nat) : ∀ k, (∀ i, i < k → β i = γ i) → rS β x k = rS γ x k
  | 0, _ => rfl
  | k + 1, h => by
    show tN _ = tN _
    rw [rS_congr x k (fun i hi => h i (by omega)), h k (by omega)]
end Go.Proofs.Ytcpicgjelohhlaa
