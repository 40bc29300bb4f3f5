/- How a word is read. -/
import Derived.Test.YtcpicgjelohhlaaSpread
import Derived.Deep.Slices
namespace Go.Proofs.Ytcpicgjelohhlaa
open Go.ChangeShapes Go.WideShapes Go.RowKit

set_option linter.unusedSimpArgs false in
theorem shape33 {H : Type} {enc : TypeId × Value → H} {w : World} {base fuel : Nat} {sp : Nat → Bool} {held : Bool} {cs : List Value} {x : DataW H × List MemPlace} (h : DataW.trod enc Try.prog w base sp held fuel 33 cs = some x) :
    ∃ (x0 : Int) (x1 : Int), cs = [.int .u64 x0, .int .u64 x1] ∧ (Lit.int .u64 x0).wf = true ∧ (Lit.int .u64 x1).wf = true := by
  have hc31 : Try.prog.cellsOf 31 = 1 := by kernel_rfl
  have hc33 : Try.prog.cellsOf 33 = 2 := by kernel_rfl
  obtain ⟨ys, m, _, rfl, hn, hl, hf⟩ := DataW.trod_struct Try.underlying33 h
  rw [hc33] at hn
  match cs, hn, ys, hl, hf with
  | [c0, c1], _, [y_0, y_1], _, hf =>
  have h_0 := hf 0 _ rfl
  have h_1 := hf 1 _ rfl
  simp [hc31, hc33] at h_0 h_1
  obtain ⟨x0, e0, rfl, s0⟩ := DataW.trod_int Try.underlying31 h_0
  obtain ⟨x1, e1, rfl, s1⟩ := DataW.trod_int Try.underlying31 h_1
  simp at e0 e1
  subst e0 e1
  exact ⟨x0, x1, rfl, s0, s1⟩

/-- A word that came by value. -/
theorem open33 {H : Type} {enc : TypeId × Value → H} {w : World} {base : Nat} {sp : Nat → Bool} {held : Bool} {r : Reach} {b0 : Nat} {v : Value} {d : DataW H} {ps : List MemPlace} (hval : Value.okWide Try.prog w r b0 33 v) (hd : DataW.Trod enc Try.prog w base sp held 33 v d ps) :
    ∃ hi lo : Nat, v = .agg #[.int .u64 hi, .int .u64 lo] ∧ hi < 18446744073709551616 ∧ lo < 18446744073709551616 := by
  obtain ⟨⟨cs⟩, rfl, hsz⟩ := okWide_struct Try.underlying33 hval
  obtain ⟨fuel, hy⟩ := hd
  obtain ⟨x0, x1, e, s0, s1⟩ := shape33 hy
  have e1 : IntKind.u64.min = 0 := by decide
  have e2 : IntKind.u64.max = 18446744073709551615 := by decide
  simp [Lit.wf, e1, e2] at s0 s1
  obtain ⟨a, rfl⟩ := Int.eq_ofNat_of_zero_le s0.1
  obtain ⟨b, rfl⟩ := Int.eq_ofNat_of_zero_le s1.1
  refine ⟨a, b, ?_, by omega, by omega⟩
  simp [Value.cells] at e
  rw [e]

theorem add_one (a : Addr) : a.add 1 = ⟨a.block, a.off + 1, none⟩ := by unfold Addr.add; simp
/-- A slice of words that came in. -/
theorem open38 {H : Type} {enc : TypeId × Value → H} {w : World} {base : Nat} {sp : Nat → Bool} {held : Bool} {r : Reach} {b0 : Nat} {v : Value} {d : DataW H} {ps : List MemPlace} (hval : Value.okWide Try.prog w r b0 38 v) (hd : DataW.Trod enc Try.prog w base sp held 38 v d ps)
    {ts : List TypeId} {ds : List (DataW H)} {j : Nat} (hsz : (DataW.weightsEach Try.prog ts ds).all (· ≤ reachBytes) = true) (ht : ts[j]? = some 38) (hdj : ds[j]? = some d) :
    ∃ (A : Option Addr) (cap : Nat) (l : List (Nat × Nat)), v = .slice A l.length cap ∧ Wides w A l ∧ ∀ p ∈ l, p.1 < 18446744073709551616 ∧ p.2 < 18446744073709551616 := by
  obtain ⟨a, len, cap, rfl⟩ := okWide_slice Try.underlying38 hval
  obtain ⟨fuel, hf⟩ := hd
  have hc33 : Try.prog.cellsOf 33 = 2 := by kernel_rfl
  have hb33 : Try.prog.bytesOf 33 = 16 := by kernel_rfl
  rcases Go.Deep.open_slice Try.underlying38 hf with ⟨hcs, _⟩ | ⟨x, len', cap', m, n, D, Pl, hcs, hb, hl, hm, hmm, hx, hi⟩
  · simp [Value.cells] at hcs
    obtain ⟨rfl, rfl, rfl⟩ := hcs
    exact ⟨none, 0, [], rfl, ⟨by simp, fun i h => absurd h (Nat.not_lt_zero i)⟩, fun p h => by simp at h⟩
  · simp [Value.cells] at hcs
    obtain ⟨rfl, rfl, rfl⟩ := hcs
    obtain ⟨hxd, _⟩ := Prod.mk.inj hx
    subst hxd
    have hz := sized_slice hsz ht hdj Try.underlying38
    rw [hb33] at hz
    have hlm : len ≤ m := by rw [hmm]; split <;> omega
    have hlen : len ≤ 4611686018427387903 := by
      simp only [List.length_map, List.length_range] at hz
      have : reachBytes ≤ 140737488355328 := by decide
      omega
    have each : ∀ i, ∃ p : Nat × Nat, i < len → (w.cell? (x.add (i * 2)) = some (.int .u64 p.1) ∧ w.cell? ⟨(x.add (i * 2)).block, (x.add (i * 2)).off + 1, none⟩ = some (.int .u64 p.2) ∧ p.1 < 18446744073709551616 ∧ p.2 < 18446744073709551616) := by
      intro i
      by_cases h : i < len
      · obtain ⟨cs', hcs', htr⟩ := hi i (by omega)
        rw [hc33] at hcs'
        obtain ⟨x0, x1, rfl, s0, s1⟩ := shape33 htr
        have c0 := (World.cells?_some hcs').2.2 0 (by omega)
        have c1 := (World.cells?_some hcs').2.2 1 (by omega)
        have e1 : IntKind.u64.min = 0 := by decide
        have e2 : IntKind.u64.max = 18446744073709551615 := by decide
        simp [Lit.wf, e1, e2] at s0 s1
        obtain ⟨y0, rfl⟩ := Int.eq_ofNat_of_zero_le s0.1
        obtain ⟨y1, rfl⟩ := Int.eq_ofNat_of_zero_le s1.1
        refine ⟨(y0, y1), fun _ => ⟨?_, ?_, by omega, by omega⟩⟩
        · rw [show x.add (i * 2) = (x.add (i * 2)).add 0 from by simp [Addr.add], c0]; rfl
        · rw [← add_one, c1]; rfl
      · exact ⟨(0, 0), fun h' => absurd h' h⟩
    obtain ⟨f, hf⟩ := Classical.axiomOfChoice each
    refine ⟨some x, cap, (List.range len).map f, by simp, ⟨by simpa using hlen, fun i h => ⟨x, rfl, ?_⟩⟩, ?_⟩
    · have h' : i < len := by simpa using h
      have := hf i h'
      simp only [List.getElem_map, List.getElem_range]
      exact ⟨this.1, this.2.1⟩
    · intro p hp
      obtain ⟨i, h, rfl⟩ := List.mem_map.1 hp
      exact (hf i (List.mem_range.1 h)).2.2
end Go.Proofs.Ytcpicgjelohhlaa
