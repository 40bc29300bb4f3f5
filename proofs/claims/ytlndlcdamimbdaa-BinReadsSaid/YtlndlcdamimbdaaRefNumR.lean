/- The walk of the reference's reader: Num. -/
import Derived.Test.YtlndlcdamimbdaaRdNum
import Derived.Test.YtlndlcdamimbdaaNumW
import Derived.Deep.RegionHeld3
namespace Go.Proofs.Ytlndlcdamimbdaa
open Go.RowKit

/-- The short form is the one that was read. -/
theorem num_canon (l : List Int) (hb : Byt l) : (h : lead l < l.length) → (numL (valL (l.take (lead l + 1))) = l.take (lead l + 1) ↔ ¬ (0 < lead l ∧ l[lead l] = 0)) := by
  induction l with
  | nil => intro h; simp at h
  | cons x t ih =>
    intro h
    have hx := hb x (by simp)
    have hbt : Byt t := fun y hy => hb y (List.mem_cons_of_mem _ hy)
    by_cases h127 : 127 < x
    · have e : lead (x :: t) = lead t + 1 := by rw [lead, if_pos h127]
      have hlt : lead t < t.length := by rw [e] at h; simpa using h
      have ih' := ih hbt hlt
      simp only [e, List.take_succ_cons, List.getElem_cons_succ]
      have hlen : (t.take (lead t + 1)).length = lead t + 1 := by rw [List.length_take]; omega
      have hstop := lead_stop t hlt
      have hge := (hbt.get _ hlt).1
      rw [valL_cons]
      have hsn : valL (t.take (lead t + 1)) = valL (t.take (lead t)) + t[lead t].toNat % 128 * 128 ^ (lead t) := by
        rw [List.take_succ_eq_append_getElem hlt, valL_snoc, List.length_take, Nat.min_eq_left (by omega)]
      by_cases h0 : valL (t.take (lead t + 1)) = 0
      · rw [h0]
        have hz : t[lead t] = 0 := by
          have hp : 0 < 128 ^ (lead t) := Nat.pow_pos (by omega)
          have : t[lead t].toNat % 128 * 128 ^ (lead t) = 0 := by omega
          rcases Nat.mul_eq_zero.1 this with h1 | h1
          · omega
          · omega
        rw [numL_small _ (by omega)]
        constructor
        · intro he
          have := congrArg List.length he
          simp [hlen] at this
        · intro hn
          exact absurd ⟨by omega, hz⟩ hn
      · rw [numL_big _ (by omega)]
        have e1 : (x.toNat % 128 + 128 * valL (t.take (lead t + 1))) % 128 = x.toNat % 128 := by omega
        have e2 : (x.toNat % 128 + 128 * valL (t.take (lead t + 1))) / 128 = valL (t.take (lead t + 1)) := by omega
        rw [e1, e2]
        have e3 : ((128 + x.toNat % 128 : Nat) : Int) = x := by omega
        rw [e3, List.cons.injEq]
        simp only [true_and]
        rw [ih']
        constructor
        · intro h1 ⟨_, h2⟩
          by_cases h3 : 0 < lead t
          · exact h1 ⟨h3, h2⟩
          · have h4 : lead t = 0 := by omega
            apply h0
            rw [hsn, h2, h4]
            simp [valL]
        · intro h1 ⟨_, h2⟩
          exact h1 ⟨by omega, h2⟩
    · have e : lead (x :: t) = 0 := by rw [lead, if_neg h127]
      simp only [e, Nat.zero_add, List.take_succ_cons, List.take_zero]
      have : valL [x] = x.toNat := by simp [valL]; omega
      rw [this, numL_small _ (by omega)]
      simp
      omega
theorem strI_inj {xs ys : List Int} (hx : Byt xs) (hy : Byt ys) (h : strOfNums xs = strOfNums ys) : xs = ys := by
  have ex : ∀ l : List Int, Byt l → (l.map Int.toNat).map Int.ofNat = l := by
    intro l hl
    rw [List.map_map]
    calc l.map _ = l.map id := List.map_congr_left fun b hb => by
          have := hl b hb
          simp
          omega
      _ = l := List.map_id l
  have bx : ∀ l : List Int, Byt l → ∀ b ∈ l.map Int.toNat, b < 256 := by
    intro l hl b hb
    obtain ⟨y, hy, rfl⟩ := List.mem_map.1 hb
    have := hl y hy
    omega
  have := str_inj (bx xs hx) (bx ys hy) (by rw [ex xs hx, ex ys hy]; exact h)
  rw [← ex xs hx, ← ex ys hy, this]
theorem str_ext {s t : ByteArray} (h : s.toList = t.toList) : s = t := by
  rw [ByteArray.toList_eq, ByteArray.toList_eq] at h
  cases s; cases t
  simp at h
  rw [h]
theorem str_eq {xs ys : List Int} (h : xs = ys) : ((strOfNums xs).toList == (strOfNums ys).toList) = true := by rw [h]; simp
theorem str_ne {xs ys : List Int} (hx : Byt xs) (hy : Byt ys) (h : xs ≠ ys) : ((strOfNums xs).toList == (strOfNums ys).toList) = false :=
  beq_eq_false_iff_ne.2 fun e => h (strI_inj hx hy (str_ext e))
theorem val_drop (m : List Int) (j : Nat) (h : j < m.length) : valL (m.drop j) = 128 * valL (m.drop (j + 1)) + m[j].toNat % 128 := by
  rw [List.drop_eq_getElem_cons h, valL_cons]; omega
theorem val_small (m : List Int) (j : Nat) (h9 : m.length ≤ 9) : valL (m.drop (j + 1)) ≤ 72057594037927935 := by
  have := valL_lt (m.drop (j + 1))
  have h2 : 128 ^ (m.drop (j + 1)).length ≤ 128 ^ 8 := Nat.pow_le_pow_right (by omega) (by simp; omega)
  omega
end Go.Proofs.Ytlndlcdamimbdaa
