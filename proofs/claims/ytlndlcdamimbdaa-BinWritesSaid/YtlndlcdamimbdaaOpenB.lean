/- A word and a slot that are read, with the bounds of their numbers. -/
import Derived.Test.YtlndlcdamimbdaaOpen
namespace Go.Proofs.Ytlndlcdamimbdaa
open Go.ChangeShapes Go.WideShapes Go.ChangeAt Go.RowKit

theorem open35b {H : Type} {enc : TypeId × Value → H} {w : World} {base : Nat} {sp : Nat → Bool} {held : Bool} {r : Reach} {b0 : Nat} {v : Value} {d : DataW H} {ps : List MemPlace} (hval : Value.okWide Try.prog w r b0 35 v) (hd : DataW.Trod enc Try.prog w base sp held 35 v d ps) :
    ∃ hi lo : Nat, v = .agg #[.int .u64 hi, .int .u64 lo] ∧ hi < 18446744073709551616 ∧ lo < 18446744073709551616 := by
  obtain ⟨⟨cs⟩, rfl, hsz⟩ := okWide_struct Try.underlying35 hval
  obtain ⟨fuel, hy⟩ := hd
  obtain ⟨x0, x1, e, s0, s1⟩ := shape35 hy
  have e1 : IntKind.u64.min = 0 := by decide
  have e2 : IntKind.u64.max = 18446744073709551615 := by decide
  simp [Lit.wf, e1, e2] at s0 s1
  obtain ⟨a, rfl⟩ := Int.eq_ofNat_of_zero_le s0.1
  obtain ⟨b, rfl⟩ := Int.eq_ofNat_of_zero_le s1.1
  refine ⟨a, b, ?_, by omega, by omega⟩
  simp [Value.cells] at e
  rw [e]
theorem open38b {H : Type} {enc : TypeId × Value → H} {w : World} {base : Nat} {sp : Nat → Bool} {held : Bool} {r : Reach} {b0 : Nat} {v : Value} {d : DataW H} {ps : List MemPlace} (hval : Value.okWide Try.prog w r b0 38 v) (hd : DataW.Trod enc Try.prog w base sp held 38 v d ps) :
    ∃ (hi lo : Nat) (kind score work age : Int), v = .agg #[.int .u64 hi, .int .u64 lo, .int .i64 kind, .int .i64 score, .int .i64 work, .int .i64 age] ∧ hi < 18446744073709551616 ∧ lo < 18446744073709551616 := by
  obtain ⟨⟨cs⟩, rfl, hsz⟩ := okWide_struct Try.underlying38 hval
  obtain ⟨fuel, hy⟩ := hd
  obtain ⟨x0, x1, x2, x3, x4, x5, e, s0, s1, _⟩ := shape38 hy
  have e1 : IntKind.u64.min = 0 := by decide
  have e2 : IntKind.u64.max = 18446744073709551615 := by decide
  simp [Lit.wf, e1, e2] at s0 s1
  obtain ⟨a, rfl⟩ := Int.eq_ofNat_of_zero_le s0.1
  obtain ⟨b, rfl⟩ := Int.eq_ofNat_of_zero_le s1.1
  refine ⟨a, b, x2, x3, x4, x5, ?_, by omega, by omega⟩
  simp [Value.cells] at e
  rw [e]
/-- A number without a sign, as a natural one. -/
theorem nat_u64 (a : Int) (h : (Lit.int .u64 a).wf = true) : ∃ n : Nat, a = n ∧ n < 18446744073709551616 := by
  have e1 : IntKind.u64.min = 0 := by decide
  have e2 : IntKind.u64.max = 18446744073709551615 := by decide
  simp [Lit.wf, e1, e2] at h
  obtain ⟨n, rfl⟩ := Int.eq_ofNat_of_zero_le h.1
  exact ⟨n, rfl, by omega⟩
end Go.Proofs.Ytlndlcdamimbdaa
