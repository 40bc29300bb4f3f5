/- The walk of the law BinWrites, at numbers as they are read. -/
import Derived.Test.YtlndlcdamimbdaaBinWrites
import Derived.Test.YtlndlcdamimbdaaOpenB
namespace Go.Proofs.Ytlndlcdamimbdaa
open Go.RowKit
theorem binWrites_all (a n : Int) (hi lo : Nat) (w : World) (h : (Lit.int .u64 a).wf = true) (hlo : lo < 18446744073709551616) : Calls Try.prog 8 #[.int .u64 a, .int .i64 n, .agg #[.int .u64 hi, .int .u64 lo]] w fun e w' => e = .returned (.bool true) ∧ Below w.heap.size w w' := by
  obtain ⟨v, rfl, hv⟩ := nat_u64 a h
  exact binWrites_walk v n hi lo w hv hlo
end Go.Proofs.Ytlndlcdamimbdaa
