/- The walk of slot's Unpack. -/
import Derived.Test.YtlndlcdamimbdaaRdKey
import Derived.Test.YtlndlcdamimbdaaSlotOf
namespace Go.Proofs.Ytlndlcdamimbdaa
open Go.RowKit

/-- The slot of sixteen bytes. -/
def unpS (l : List Int) : Sl := ⟨(l.getD 8 0).toNat, sumL (l.take 8), ((l.getD 9 0).toNat : Int), ((l.getD 10 0).toNat : Int) - 32, (sumL ((l.drop 11).take 4) : Int), ((l.getD 15 0).toNat : Int)⟩
theorem fx_ok (m : List Int) (n : Nat) (h1 : 1 ≤ n) (h8 : n ≤ 8) (h : n ≤ m.length) : fxV m 0 n = sumL (m.take n) ∧ fxS m 0 n = m.drop n ∧ fxE m 0 n = 0 := by
  have hn : (1 : Int) ≤ n ∧ (n : Int) ≤ 8 := by omega
  refine ⟨?_, ?_, ?_⟩
  · unfold fxV tkV; rw [if_pos hn, if_neg (by simp), if_neg (by simp; omega)]; simp
  · unfold fxS tkS; rw [if_pos hn, if_neg (by simp), if_neg (by simp; omega)]; simp
  · unfold fxE tkE; rw [if_pos hn, if_neg (by simp), if_neg (by simp; omega)]
theorem one_byte (l : List Int) (k : Nat) (h : k < l.length) (_hb : Byt l) : sumL ((l.drop k).take 1) = (l.getD k 0).toNat := by
  rw [List.drop_eq_getElem_cons h, List.take_succ_cons, List.take_zero, List.getD, List.getElem?_eq_getElem h]
  simp [sumL]
theorem getD_lt (l : List Int) (k : Nat) (h : k < l.length) (hb : Byt l) : (l.getD k 0).toNat < 256 := by
  rw [List.getD, List.getElem?_eq_getElem h]
  have := hb.get k h
  simp
  omega
theorem rd_key {w : World} {b : Nat} {l : List Int} (hl : l.length = 16) (h : Rd 80 [] w b l 0) : Calls Try.prog 40 #[.pointer (some ⟨b, 0, none⟩)] w fun e' w' => e' = .returned (.agg #[.int .u64 (unpS l).hi, .int .u64 (unpS l).lo]) ∧ Rd 80 [] w' b (l.drop 9) 0 ∧ w.grownBy w' (some b) := by
  have hb := h.byt
  have e1 : kyH l 0 = ((unpS l).hi : Int) := by
    unfold kyH tkV unpS
    rw [if_neg (by simp), if_neg (by omega)]
    have := hb.get 8 (by omega)
    simp [List.getD, List.getElem?_eq_getElem (show 8 < l.length by omega)]
    omega
  have e2 : kyL l 0 = (unpS l).lo := by
    unfold kyL tkV unpS
    rw [if_neg (by simp), if_neg (by omega), List.take_take]; rfl
  have e3 : tkS l 0 9 = l.drop 9 := by unfold tkS; rw [if_neg (by simp), if_neg (by omega)]
  have e4 : tkE l 0 9 = 0 := by unfold tkE; rw [if_neg (by simp), if_neg (by omega)]
  have := keyR_any h
  rw [e1, e2, e3, e4] at this
  exact this
theorem rd_fix {w : World} {b : Nat} {l : List Int} (k n : Nat) (h1 : 1 ≤ n) (h8 : n ≤ 8) (hl : k + n ≤ l.length) (h : Rd 80 [] w b (l.drop k) 0) (x : Nat) (hx : sumL ((l.drop k).take n) = x) : Calls Try.prog 41 #[.pointer (some ⟨b, 0, none⟩), .int .i64 n] w fun e' w' => e' = .returned (.int .u64 x) ∧ Rd 80 [] w' b (l.drop (k + n)) 0 ∧ w.grownBy w' (some b) := by
  obtain ⟨e1, e2, e3⟩ := fx_ok (l.drop k) n h1 h8 (by simp; omega)
  have := fixedR_any h n
  rw [e1, e2, e3, List.drop_drop, hx] at this
  exact this
end Go.Proofs.Ytlndlcdamimbdaa
