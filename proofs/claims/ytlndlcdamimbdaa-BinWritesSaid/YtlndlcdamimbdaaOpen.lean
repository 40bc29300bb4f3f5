/- How the seat's structs of whole numbers open. -/
import Derived.Test.YtlndlcdamimbdaaBase
namespace Go.Proofs.Ytlndlcdamimbdaa
open Go.ChangeShapes Go.WideShapes Go.ChangeAt Go.RowKit

set_option linter.unusedSimpArgs false in
theorem shape35 {H : Type} {enc : TypeId × Value → H} {w : World} {base fuel : Nat} {sp : Nat → Bool} {held : Bool} {cs : List Value} {x : DataW H × List MemPlace} (h : DataW.trod enc Try.prog w base sp held fuel 35 cs = some x) :
    ∃ (x0 : Int) (x1 : Int), cs = [.int .u64 x0, .int .u64 x1] ∧ (Lit.int .u64 x0).wf = true ∧ (Lit.int .u64 x1).wf = true := by
  have hc33 : Try.prog.cellsOf 33 = 1 := by kernel_rfl
  have hc35 : Try.prog.cellsOf 35 = 2 := by kernel_rfl
  obtain ⟨ys, m, _, rfl, hn, hl, hf⟩ := DataW.trod_struct Try.underlying35 h
  rw [hc35] at hn
  match cs, hn, ys, hl, hf with
  | [c0, c1], _, [y_0, y_1], _, hf =>
  have h_0 := hf 0 _ rfl
  have h_1 := hf 1 _ rfl
  simp [hc33, hc35] at h_0 h_1
  obtain ⟨x0, e0, rfl, s0⟩ := DataW.trod_int Try.underlying33 h_0
  obtain ⟨x1, e1, rfl, s1⟩ := DataW.trod_int Try.underlying33 h_1
  simp at e0 e1
  subst e0 e1
  exact ⟨x0, x1, rfl, s0, s1⟩
set_option linter.unusedSimpArgs false in
theorem shape38 {H : Type} {enc : TypeId × Value → H} {w : World} {base fuel : Nat} {sp : Nat → Bool} {held : Bool} {cs : List Value} {x : DataW H × List MemPlace} (h : DataW.trod enc Try.prog w base sp held fuel 38 cs = some x) :
    ∃ (x0 : Int) (x1 : Int) (x2 : Int) (x3 : Int) (x4 : Int) (x5 : Int), cs = [.int .u64 x0, .int .u64 x1, .int .i64 x2, .int .i64 x3, .int .i64 x4, .int .i64 x5] ∧ (Lit.int .u64 x0).wf = true ∧ (Lit.int .u64 x1).wf = true ∧ (Lit.int .i64 x2).wf = true ∧ (Lit.int .i64 x3).wf = true ∧ (Lit.int .i64 x4).wf = true ∧ (Lit.int .i64 x5).wf = true := by
  have hc3 : Try.prog.cellsOf 3 = 1 := by kernel_rfl
  have hc33 : Try.prog.cellsOf 33 = 1 := by kernel_rfl
  have hc35 : Try.prog.cellsOf 35 = 2 := by kernel_rfl
  have hc36 : Try.prog.cellsOf 36 = 1 := by kernel_rfl
  have hc38 : Try.prog.cellsOf 38 = 6 := by kernel_rfl
  obtain ⟨ys, m, _, rfl, hn, hl, hf⟩ := DataW.trod_struct Try.underlying38 h
  rw [hc38] at hn
  match cs, hn, ys, hl, hf with
  | [c0, c1, c2, c3, c4, c5], _, [y_0, y_1, y_2, y_3, y_4], _, hf =>
  have h_0 := hf 0 _ rfl
  have h_1 := hf 1 _ rfl
  have h_2 := hf 2 _ rfl
  have h_3 := hf 3 _ rfl
  have h_4 := hf 4 _ rfl
  simp [hc3, hc33, hc35, hc36, hc38] at h_0 h_1 h_2 h_3 h_4
  obtain ⟨ys_0, m_0, _, rfl, hn_0, hl_0, hf_0⟩ := DataW.trod_struct Try.underlying35 h_0
  match ys_0, hl_0, hf_0 with
  | [y_0_0, y_0_1], _, hf_0 =>
  have h_0_0 := hf_0 0 _ rfl
  have h_0_1 := hf_0 1 _ rfl
  simp [hc3, hc33, hc35, hc36, hc38] at h_0_0 h_0_1
  obtain ⟨x0, e0, rfl, s0⟩ := DataW.trod_int Try.underlying33 h_0_0
  obtain ⟨x1, e1, rfl, s1⟩ := DataW.trod_int Try.underlying33 h_0_1
  obtain ⟨x2, e2, rfl, s2⟩ := DataW.trod_int Try.underlying36 h_1
  obtain ⟨x3, e3, rfl, s3⟩ := DataW.trod_int Try.underlying3 h_2
  obtain ⟨x4, e4, rfl, s4⟩ := DataW.trod_int Try.underlying3 h_3
  obtain ⟨x5, e5, rfl, s5⟩ := DataW.trod_int Try.underlying3 h_4
  simp at e0 e1 e2 e3 e4 e5
  subst e0 e1 e2 e3 e4 e5
  exact ⟨x0, x1, x2, x3, x4, x5, rfl, s0, s1, s2, s3, s4, s5⟩

theorem open35 {H : Type} {enc : TypeId × Value → H} {w : World} {base : Nat} {sp : Nat → Bool} {held : Bool} {r : Reach} {b0 : Nat} {v : Value} {d : DataW H} {ps : List MemPlace} (hval : Value.okWide Try.prog w r b0 35 v) (hd : DataW.Trod enc Try.prog w base sp held 35 v d ps) :
    ∃ hi lo : Nat, v = .agg #[.int .u64 hi, .int .u64 lo] := by
  obtain ⟨⟨cs⟩, rfl, hsz⟩ := okWide_struct Try.underlying35 hval
  obtain ⟨fuel, hy⟩ := hd
  obtain ⟨x0, x1, e, s0, s1⟩ := shape35 hy
  have e1 : IntKind.u64.min = 0 := by decide
  have e2 : IntKind.u64.max = 18446744073709551615 := by decide
  simp [Lit.wf, e1, e2] at s0 s1
  obtain ⟨a, rfl⟩ := Int.eq_ofNat_of_zero_le s0.1
  obtain ⟨b, rfl⟩ := Int.eq_ofNat_of_zero_le s1.1
  refine ⟨a, b, ?_⟩
  simp [Value.cells] at e
  rw [e]
theorem open38 {H : Type} {enc : TypeId × Value → H} {w : World} {base : Nat} {sp : Nat → Bool} {held : Bool} {r : Reach} {b0 : Nat} {v : Value} {d : DataW H} {ps : List MemPlace} (hval : Value.okWide Try.prog w r b0 38 v) (hd : DataW.Trod enc Try.prog w base sp held 38 v d ps) :
    ∃ (hi lo : Nat) (kind score work age : Int), v = .agg #[.int .u64 hi, .int .u64 lo, .int .i64 kind, .int .i64 score, .int .i64 work, .int .i64 age] := by
  obtain ⟨⟨cs⟩, rfl, hsz⟩ := okWide_struct Try.underlying38 hval
  obtain ⟨fuel, hy⟩ := hd
  obtain ⟨x0, x1, x2, x3, x4, x5, e, s0, s1, _⟩ := shape38 hy
  have e1 : IntKind.u64.min = 0 := by decide
  have e2 : IntKind.u64.max = 18446744073709551615 := by decide
  simp [Lit.wf, e1, e2] at s0 s1
  obtain ⟨a, rfl⟩ := Int.eq_ofNat_of_zero_le s0.1
  obtain ⟨b, rfl⟩ := Int.eq_ofNat_of_zero_le s1.1
  refine ⟨a, b, x2, x3, x4, x5, ?_⟩
  simp [Value.cells] at e
  rw [e]
end Go.Proofs.Ytlndlcdamimbdaa
