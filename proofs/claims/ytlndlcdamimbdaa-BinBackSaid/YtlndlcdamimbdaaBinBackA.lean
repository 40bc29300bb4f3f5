/- The walk of the law BinBack, at numbers as they are read. -/
import Derived.Test.YtlndlcdamimbdaaBinBack
import Derived.Test.YtlndlcdamimbdaaOpenB
namespace Go.Proofs.Ytlndlcdamimbdaa
open Go.RowKit
theorem binBack_all (A : Option Addr) (c : Nat) (l : List Int) (hi lo : Nat) (a : Int) (w : World) (hr : Row w .i64 A l) (hw : ∀ x ∈ l, (Lit.int .i64 x).wf = true) (hlo : lo < 18446744073709551616) (h : (Lit.int .u64 a).wf = true) : Calls Try.prog 9 #[.slice A l.length c, .agg #[.int .u64 hi, .int .u64 lo], .int .u64 a] w fun e w' => e = .returned (.bool true) ∧ Below w.heap.size w w' := by
  obtain ⟨n, rfl, hn⟩ := nat_u64 a h
  refine binBack_walk A c l hi lo n w hr (fun x hx => ?_) hlo hn
  have e1 : IntKind.i64.min = -9223372036854775808 := by decide
  have e2 : IntKind.i64.max = 9223372036854775807 := by decide
  have := hw x hx
  simp [Lit.wf, e1, e2] at this
  omega
end Go.Proofs.Ytlndlcdamimbdaa
