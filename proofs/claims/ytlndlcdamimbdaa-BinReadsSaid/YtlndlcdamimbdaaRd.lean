/- Plain words on bytes that are read: sums of bytes, numbers in their short form, the state of a reader behind each call. -/
import Derived.Test.YtlndlcdamimbdaaRefFixed
namespace Go.Proofs.Ytlndlcdamimbdaa
open Go.RowKit

/-- These are bytes. -/
def Byt (l : List Int) : Prop := ∀ x ∈ l, 0 ≤ x ∧ x < 256
theorem Byt.drop {l : List Int} (h : Byt l) (k : Nat) : Byt (l.drop k) := fun x hx => h x (List.mem_of_mem_drop hx)
theorem Byt.take {l : List Int} (h : Byt l) (k : Nat) : Byt (l.take k) := fun x hx => h x (List.mem_of_mem_take hx)
theorem Byt.nil : Byt [] := fun x hx => by simp at hx
theorem Byt.append {l m : List Int} (h : Byt l) (k : Byt m) : Byt (l ++ m) := fun x hx => by
  rcases List.mem_append.1 hx with h1 | h1
  · exact h x h1
  · exact k x h1
theorem Byt.get {l : List Int} (h : Byt l) (i : Nat) (hi : i < l.length) : 0 ≤ l[i] ∧ l[i] < 256 := h _ (List.getElem_mem hi)

/-- The number of bytes, the lowest first. -/
def sumL (l : List Int) : Nat := l.foldr (fun b acc => b.toNat + 256 * acc) 0
theorem sumL_nil : sumL [] = 0 := rfl
theorem sumL_cons (x : Int) (l : List Int) : sumL (x :: l) = x.toNat + 256 * sumL l := rfl
theorem sumL_snoc (l : List Int) (x : Int) : sumL (l ++ [x]) = sumL l + x.toNat * 256 ^ l.length := by
  induction l with
  | nil => simp [sumL]
  | cons y l ih => rw [List.cons_append, sumL_cons, ih, sumL_cons, List.length_cons, Nat.pow_succ]; 
                   generalize sumL l = a; generalize 256 ^ l.length = p
                   rw [Nat.mul_add, Nat.mul_comm 256 (x.toNat * p), Nat.mul_assoc]; omega
theorem sumL_lt (l : List Int) (h : Byt l) : sumL l < 256 ^ l.length := by
  induction l with
  | nil => simp [sumL]
  | cons y l ih =>
    have h1 := ih (fun x hx => h x (List.mem_cons_of_mem _ hx))
    have h2 := h y (by simp)
    rw [sumL_cons, List.length_cons, Nat.pow_succ]
    generalize sumL l = a at *
    generalize 256 ^ l.length = p at *
    omega
theorem sumL_fixL (v n : Nat) : sumL (fixL v n) = v % 256 ^ n := by
  induction n with
  | zero => simp [fixL, sumL, Nat.mod_one]
  | succ n ih =>
    rw [fixL_step, sumL_snoc, ih, fixL_length, Nat.mod_pow_succ, Int.toNat_natCast, Nat.mul_comm]
theorem byt_fixL (v n : Nat) : Byt (fixL v n) := by
  induction n with
  | zero => simp [fixL]; exact Byt.nil
  | succ n ih =>
    rw [fixL_step]
    refine ih.append fun x hx => ?_
    simp only [List.mem_singleton] at hx
    subst hx
    generalize v / 256 ^ n = q
    omega

/-- A number's short form. -/
def numL (n : Nat) : List Int := if n < 128 then [(n : Int)] else ((128 + n % 128 : Nat) : Int) :: numL (n / 128)
termination_by n
decreasing_by omega
theorem numL_small (n : Nat) (h : n < 128) : numL n = [(n : Int)] := by rw [numL, if_pos h]
theorem numL_big (n : Nat) (h : ¬ n < 128) : numL n = ((128 + n % 128 : Nat) : Int) :: numL (n / 128) := by rw [numL, if_neg h]
theorem byt_numL (n : Nat) : Byt (numL n) := by
  induction n using Nat.strongRecOn with
  | _ n ih =>
    by_cases h : n < 128
    · rw [numL_small n h]
      intro x hx
      simp only [List.mem_singleton] at hx
      subst hx
      omega
    · rw [numL_big n h]
      intro x hx
      rcases List.mem_cons.1 hx with rfl | hx
      · omega
      · exact ih (n / 128) (by omega) x hx
theorem numL_len (k : Nat) : ∀ n, n < 128 ^ (k + 1) → (numL n).length ≤ k + 1 := by
  induction k with
  | zero => intro n h; rw [numL_small n (by simpa using h)]; simp
  | succ k ih =>
    intro n h
    by_cases h1 : n < 128
    · rw [numL_small n h1]; simp
    · rw [numL_big n h1]
      have : n / 128 < 128 ^ (k + 1) := by
        rw [Nat.pow_succ] at h
        exact Nat.div_lt_of_lt_mul (by rw [Nat.mul_comm]; exact h)
      have := ih _ this
      simp; omega
theorem numL_pos (n : Nat) : 1 ≤ (numL n).length := by
  by_cases h1 : n < 128
  · rw [numL_small n h1]; simp
  · rw [numL_big n h1]; simp

/-- The number of bytes of seven bits each. -/
def valL (l : List Int) : Nat := l.foldr (fun b acc => b.toNat % 128 + 128 * acc) 0
theorem valL_cons (x : Int) (l : List Int) : valL (x :: l) = x.toNat % 128 + 128 * valL l := rfl
theorem valL_lt (l : List Int) : valL l < 128 ^ l.length := by
  induction l with
  | nil => simp [valL]
  | cons y l ih =>
    rw [valL_cons, List.length_cons, Nat.pow_succ]
    generalize valL l = a at *
    generalize 128 ^ l.length = p at *
    omega
theorem valL_snoc (l : List Int) (x : Int) : valL (l ++ [x]) = valL l + x.toNat % 128 * 128 ^ l.length := by
  induction l with
  | nil => simp [valL]
  | cons y l ih => rw [List.cons_append, valL_cons, ih, valL_cons, List.length_cons, Nat.pow_succ]; 
                   generalize valL l = a; generalize 128 ^ l.length = p; generalize x.toNat % 128 = z
                   rw [Nat.mul_add, Nat.mul_comm 128 (z * p), Nat.mul_assoc]; omega

/-- How many bytes above 127 stand first. -/
def lead : List Int → Nat
  | [] => 0
  | x :: l => if 127 < x then lead l + 1 else 0
theorem lead_le (l : List Int) : lead l ≤ l.length := by
  induction l with
  | nil => simp [lead]
  | cons x l ih => unfold lead; split <;> simp <;> omega
theorem lead_gt (l : List Int) : ∀ i, (h : i < l.length) → i < lead l → 127 < l[i] := by
  induction l with
  | nil => intro i h; simp at h
  | cons x l ih =>
    intro i h hi
    unfold lead at hi
    split at hi
    · cases i with
      | zero => simpa using ‹127 < x›
      | succ i => simpa using ih i (by simpa using h) (by omega)
    · omega
theorem lead_stop (l : List Int) : (h : lead l < l.length) → l[lead l] ≤ 127 := by
  induction l with
  | nil => intro h; simp at h
  | cons x l ih =>
    intro h
    by_cases hx : 127 < x
    · have e : lead (x :: l) = lead l + 1 := by rw [lead, if_pos hx]
      simp only [e, List.getElem_cons_succ]
      exact ih (by rw [e] at h; simpa using h)
    · have e : lead (x :: l) = 0 := by rw [lead, if_neg hx]
      simp only [e, List.getElem_cons_zero]
      omega

/-- What a reader with bytes l and error e tells when a number is read in its short form; its bytes then; its error then. -/
def numV (l : List Int) (e : Int) : Int := if e ≠ 0 then 0 else if 9 ≤ lead l then 0 else if lead l = l.length then 0 else if 0 < lead l ∧ l.getD (lead l) 0 = 0 then 0 else valL (l.take (lead l + 1))
def numE (l : List Int) (e : Int) : Int := if e ≠ 0 then e else if 9 ≤ lead l then 4 else if lead l = l.length then 5 else if 0 < lead l ∧ l.getD (lead l) 0 = 0 then 4 else 0
def numS (l : List Int) (e : Int) : List Int := if e ≠ 0 then l else if 9 ≤ lead l then l else if lead l = l.length then l else if 0 < lead l ∧ l.getD (lead l) 0 = 0 then l else l.drop (lead l + 1)

/-- Bytes taken (n is not below 0). -/
def tkV (l : List Int) (e : Int) (n : Nat) : List Int := if e ≠ 0 then [] else if l.length < n then [] else l.take n
def tkE (l : List Int) (e : Int) (n : Nat) : Int := if e ≠ 0 then e else if l.length < n then 5 else 0
def tkS (l : List Int) (e : Int) (n : Nat) : List Int := if e ≠ 0 then l else if l.length < n then l else l.drop n

/-- valL of the short form. -/
theorem lead_numL (n : Nat) (t : List Int) : lead (numL n ++ t) + 1 = (numL n).length ∧ valL (numL n) = n := by
  induction n using Nat.strongRecOn with
  | _ n ih =>
    by_cases h : n < 128
    · rw [numL_small n h]
      refine ⟨?_, ?_⟩
      · simp only [List.singleton_append, List.length_singleton]
        rw [lead, if_neg (by omega)]
      · simp [valL]; omega
    · rw [numL_big n h]
      obtain ⟨h1, h2⟩ := ih (n / 128) (by omega)
      refine ⟨?_, ?_⟩
      · rw [List.cons_append, lead, if_pos (by omega), List.length_cons]
        omega
      · rw [valL_cons, h2]; omega
theorem numL_last (n : Nat) (t : List Int) (h0 : 0 < lead (numL n ++ t)) : (numL n ++ t).getD (lead (numL n ++ t)) 0 ≠ 0 := by
  induction n using Nat.strongRecOn with
  | _ n ih =>
    by_cases h : n < 128
    · have := (lead_numL n t).1
      rw [numL_small n h] at this h0
      simp at this h0
      omega
    · have e : numL n ++ t = ((128 + n % 128 : Nat) : Int) :: (numL (n / 128) ++ t) := by rw [numL_big n h]; rfl
      have e2 : lead (numL n ++ t) = lead (numL (n / 128) ++ t) + 1 := by rw [e, lead, if_pos (by omega)]
      rw [e2, e, List.getD_cons_succ]
      by_cases h3 : 0 < lead (numL (n / 128) ++ t)
      · exact ih _ (by omega) h3
      · have h4 : lead (numL (n / 128) ++ t) = 0 := by omega
        have h5 := (lead_numL (n / 128) t).1
        by_cases h6 : n / 128 < 128
        · rw [h4, numL_small _ h6]
          simp
          omega
        · exfalso
          rw [numL_big _ h6, List.cons_append, lead, if_pos (by omega)] at h4
          omega
/-- Num reads back what was written. -/
theorem num_back (n : Nat) (t : List Int) (h : n < 128 ^ 9) : numV (numL n ++ t) 0 = n ∧ numE (numL n ++ t) 0 = 0 ∧ numS (numL n ++ t) 0 = t := by
  obtain ⟨h1, h2⟩ := lead_numL n t
  have h3 := numL_len 8 n h
  have hp := numL_pos n
  have h4 : ¬ (9 ≤ lead (numL n ++ t)) := by omega
  have h5 : ¬ (lead (numL n ++ t) = (numL n ++ t).length) := by rw [List.length_append]; omega
  have h6 : ¬ (0 < lead (numL n ++ t) ∧ (numL n ++ t).getD (lead (numL n ++ t)) 0 = 0) := fun h => numL_last n t h.1 h.2
  refine ⟨?_, ?_, ?_⟩
  · unfold numV
    rw [if_neg (by simp), if_neg h4, if_neg h5, if_neg h6, h1, List.take_left, h2]
  · unfold numE
    rw [if_neg (by simp), if_neg h4, if_neg h5, if_neg h6]
  · unfold numS
    rw [if_neg (by simp), if_neg h4, if_neg h5, if_neg h6, h1, List.drop_left]
end Go.Proofs.Ytlndlcdamimbdaa
