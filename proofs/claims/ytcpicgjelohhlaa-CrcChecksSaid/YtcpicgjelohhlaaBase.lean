/- Plain words for the walks of this seat: a row of whole numbers that is read; a block of the call's own. -/
import Derived.Test.YtcpicgjelohhlaaRows
import Derived.WalkKit
import Derived.WalkSpells
import Derived.WalkLawsBesides
import Derived.Laws.BitsLemmas
import Derived.Outline
import Derived.Handy
import Derived.Lib.Hide
import Derived.Lib.SlBytesConst
import Derived.ProofKit
import Derived.OpenShut
import Derived.ChangeOld
import Derived.Below
import Derived.SizedLaws
namespace Go.Proofs.Ytcpicgjelohhlaa
open Go.RowKit

/-- The slice that begins at A reads as the whole numbers l. -/
def Row (w : World) (kd : IntKind) (A : Option Addr) (l : List Int) : Prop :=
  l.length ≤ 9223372036854775807 ∧ ∀ i, (h : i < l.length) → ∃ ad, A = some ad ∧ w.cell? (ad.add i) = some (.int kd l[i])

theorem add_block (a : Addr) (i : Nat) : (a.add i).block = a.block := by
  unfold Addr.add; split <;> rfl
theorem add_new (g j : Nat) : (⟨g, 0, none⟩ : Addr).add j = ⟨g, j, none⟩ := by unfold Addr.add; split <;> simp_all

theorem cell_below {w w1 : World} (h : Below w.heap.size w w1) {a : Addr} {v : Value} (hc : w.cell? a = some v) : w1.cell? a = some v :=
  (h.cell (World.block_lt_of_cell? w a hc)).trans hc

theorem Row.below {w w1 : World} {kd : IntKind} {A : Option Addr} {l : List Int} (h : Row w kd A l) (hb : Below w.heap.size w w1) : Row w1 kd A l :=
  ⟨h.1, fun i hi => by
    obtain ⟨ad, e, hc⟩ := h.2 i hi
    exact ⟨ad, e, cell_below hb hc⟩⟩
theorem Row.alloc {w : World} {kd : IntKind} {A : Option Addr} {l : List Int} (h : Row w kd A l) (o : Obj) : Row (w.alloc o) kd A l := h.below ((Below.refl _ _).alloc (Nat.le_refl _) o)
theorem Row.drew {w : World} {kd : IntKind} {A : Option Addr} {l : List Int} (h : Row w kd A l) : Row w.drew kd A l := h
theorem Row.lt {w : World} {kd : IntKind} {A : Option Addr} {l : List Int} (h : Row w kd A l) : ∀ ad, A = some ad → 0 < l.length → ad.block < w.heap.size := by
  intro ad e hl
  obtain ⟨ad', e', hc⟩ := h.2 0 hl
  have := World.block_lt_of_cell? w _ hc
  rw [add_block] at this
  rw [e] at e'
  injection e' with e'
  rw [e']; exact this
theorem Row.nil (w : World) (kd : IntKind) : Row w kd none [] := ⟨by simp, fun i h => absurd h (Nat.not_lt_zero i)⟩
theorem Row.new (w : World) (kd : IntKind) (l : List Int) (t : TypeId) (fr : Nat × Nat) (h : l.length ≤ 1000) : Row (w.alloc (.cells (l.map (Value.int kd)).toArray t fr)) kd (some ⟨w.heap.size, 0, none⟩) l := by
  refine ⟨by omega, fun j hj => ⟨_, rfl, ?_⟩⟩
  rw [add_new, World.cell?_alloc_mark]
  simp [List.getElem?_eq_getElem hj]

/-- What the reading of a slice of whole numbers gives: the row that the walks take. -/
theorem Row.opened {kd : IntKind} {w : World} {a : Option Addr} {len cap : Nat} (h : (a = none ∧ len = 0 ∧ cap = 0) ∨ ∃ (x : Addr) (zs : List Int), a = some x ∧ len ≤ cap ∧ cap ≤ maxLen ∧ zs.length = cap ∧ (∀ i, i < zs.length → w.cell? (x.add i) = some (.int kd (zs.getD i 0))) ∧ ∀ n ∈ zs, (Lit.int kd n).wf = true) :
    ∃ l : List Int, len = l.length ∧ Row w kd a l ∧ (∀ x ∈ l, (Lit.int kd x).wf = true) ∧ l.length ≤ cap := by
  rcases h with ⟨rfl, rfl, rfl⟩ | ⟨x, zs, rfl, hl, hm, hz, hc, hw⟩
  · exact ⟨[], rfl, Row.nil _ _, fun x hx => by simp at hx, Nat.le_refl _⟩
  · have e : (zs.take len).length = len := by simp; omega
    have hm' : len ≤ maxLen := Nat.le_trans hl hm
    refine ⟨zs.take len, e.symm, ⟨by rw [e]; simpa [maxLen] using hm', fun j hj => ⟨x, rfl, ?_⟩⟩, fun y hy => hw y (List.mem_of_mem_take hy), by rw [e]; exact hl⟩
    rw [e] at hj
    rw [hc j (by omega)]
    simp [List.getD, List.getElem?_eq_getElem (show j < zs.length by omega)]
end Go.Proofs.Ytcpicgjelohhlaa
