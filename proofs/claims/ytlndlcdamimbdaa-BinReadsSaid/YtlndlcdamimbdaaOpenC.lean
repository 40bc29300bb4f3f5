/- Bytes that are read, with the bound of their capacity. -/
import Derived.Test.YtlndlcdamimbdaaRd
namespace Go.Proofs.Ytlndlcdamimbdaa
open Go.RowKit
theorem Row.opened2 {kd : IntKind} {w : World} {a : Option Addr} {len cap : Nat} (h : (a = none ∧ len = 0 ∧ cap = 0) ∨ ∃ (x : Addr) (zs : List Int), a = some x ∧ len ≤ cap ∧ cap ≤ maxLen ∧ zs.length = cap ∧ (∀ i, i < zs.length → w.cell? (x.add i) = some (.int kd (zs.getD i 0))) ∧ ∀ n ∈ zs, (Lit.int kd n).wf = true) :
    ∃ l : List Int, len = l.length ∧ Row w kd a l ∧ (∀ x ∈ l, (Lit.int kd x).wf = true) ∧ l.length ≤ cap ∧ cap ≤ maxLen ∧ (a = none → cap = 0) := by
  have hc : cap ≤ maxLen ∧ (a = none → cap = 0) := by
    rcases h with ⟨_, _, rfl⟩ | ⟨x, zs, rfl, _, hm, _⟩
    · exact ⟨Nat.zero_le _, fun _ => rfl⟩
    · exact ⟨hm, fun e => by cases e⟩
  obtain ⟨l, h1, h2, h3, h4⟩ := Row.opened h
  exact ⟨l, h1, h2, h3, h4, hc⟩
theorem byt_wf {l : List Int} (h : ∀ x ∈ l, (Lit.int .u8 x).wf = true) : Byt l := by
  intro x hx
  have e1 : IntKind.u8.min = 0 := by decide
  have e2 : IntKind.u8.max = 255 := by decide
  have := h x hx
  simp [Lit.wf, e1, e2] at this
  omega
end Go.Proofs.Ytlndlcdamimbdaa
