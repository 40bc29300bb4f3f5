/- How a word is read. -/
import Derived.Test.YtcpicgjelohhlaaBase
import Derived.Deep.Slices
namespace Go.Proofs.Ytcpicgjelohhlaa
open Go.ChangeShapes Go.WideShapes Go.RowKit

set_option linter.unusedSimpArgs false in
theorem shape33 {H : Type} {enc : TypeId × Value → H} {w : World} {base fuel : Nat} {sp : Nat → Bool} {held : Bool} {cs : List Value} {x : DataW H × List MemPlace} (h : DataW.trod enc Try.prog w base sp held fuel 33 cs = some x) :
    ∃ (x0 : Int) (x1 : Int), cs = [.int .u64 x0, .int .u64 x1] ∧ (Lit.int .u64 x0).wf = true ∧ (Lit.int .u64 x1).wf = true := by
  have hc31 : Try.prog.cellsOf 31 = 1 := by kernel_rfl
  have hc33 : Try.prog.cellsOf 33 = 2 := by kernel_rfl
  obtain ⟨ys, m, _, rfl, hn, hl, hf⟩ := DataW.trod_struct Try.underlying33 h
  rw [hc33] at hn
  match cs, hn, ys, hl, hf with
  | [c0, c1], _, [y_0, y_1], _, hf =>
  have h_0 := hf 0 _ rfl
  have h_1 := hf 1 _ rfl
  simp [hc31, hc33] at h_0 h_1
  obtain ⟨x0, e0, rfl, s0⟩ := DataW.trod_int Try.underlying31 h_0
  obtain ⟨x1, e1, rfl, s1⟩ := DataW.trod_int Try.underlying31 h_1
  simp at e0 e1
  subst e0 e1
  exact ⟨x0, x1, rfl, s0, s1⟩

/-- A word that came by value. -/
theorem open33 {H : Type} {enc : TypeId × Value → H} {w : World} {base : Nat} {sp : Nat → Bool} {held : Bool} {r : Reach} {b0 : Nat} {v : Value} {d : DataW H} {ps : List MemPlace} (hval : Value.okWide Try.prog w r b0 33 v) (hd : DataW.Trod enc Try.prog w base sp held 33 v d ps) :
    ∃ hi lo : Nat, v = .agg #[.int .u64 hi, .int .u64 lo] ∧ hi < 18446744073709551616 ∧ lo < 18446744073709551616 := by
  obtain ⟨⟨cs⟩, rfl, hsz⟩ := okWide_struct Try.underlying33 hval
  obtain ⟨fuel, hy⟩ := hd
  obtain ⟨x0, x1, e, s0, s1⟩ := shape33 hy
  have e1 : IntKind.u64.min = 0 := by decide
  have e2 : IntKind.u64.max = 18446744073709551615 := by decide
  simp [Lit.wf, e1, e2] at s0 s1
  obtain ⟨a, rfl⟩ := Int.eq_ofNat_of_zero_le s0.1
  obtain ⟨b, rfl⟩ := Int.eq_ofNat_of_zero_le s1.1
  refine ⟨a, b, ?_, by omega, by omega⟩
  simp [Value.cells] at e
  rw [e]
end Go.Proofs.Ytcpicgjelohhlaa
