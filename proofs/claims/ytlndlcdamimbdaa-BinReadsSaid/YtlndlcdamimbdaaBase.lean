/- Plain words for the walks of this seat: a row of whole numbers that is read; a block of the call's own. -/
import Derived.Test.YtlndlcdamimbdaaRows
import Derived.WalkKit
import Derived.WalkSpells
import Derived.WalkLawsBesides
import Derived.Laws.BitsLemmas
import Derived.Outline
import Derived.Handy
import Derived.Lib.Hide
import Derived.Lib.SlBytesConst
import Derived.ProofKit
import Derived.OpenShut
import Derived.ChangeOld
import Derived.Below
import Derived.SizedLaws
import Derived.Laws.BytesArg
import Derived.Maps.AppendAt
import Derived.Laws.AppendOwnNone
namespace Go.Proofs.Ytlndlcdamimbdaa
open Go.RowKit

/-- The slice that begins at A reads as the whole numbers l. -/
def Row (w : World) (kd : IntKind) (A : Option Addr) (l : List Int) : Prop :=
  l.length ≤ 9223372036854775807 ∧ ∀ i, (h : i < l.length) → ∃ ad, A = some ad ∧ w.cell? (ad.add i) = some (.int kd l[i])

theorem add_block (a : Addr) (i : Nat) : (a.add i).block = a.block := by
  unfold Addr.add; split <;> rfl
theorem add_new (g j : Nat) : (⟨g, 0, none⟩ : Addr).add j = ⟨g, j, none⟩ := by unfold Addr.add; split <;> simp_all

theorem cell_below {w w1 : World} (h : Below w.heap.size w w1) {a : Addr} {v : Value} (hc : w.cell? a = some v) : w1.cell? a = some v :=
  (h.cell (World.block_lt_of_cell? w a hc)).trans hc

theorem Row.below {w w1 : World} {kd : IntKind} {A : Option Addr} {l : List Int} (h : Row w kd A l) (hb : Below w.heap.size w w1) : Row w1 kd A l :=
  ⟨h.1, fun i hi => by
    obtain ⟨ad, e, hc⟩ := h.2 i hi
    exact ⟨ad, e, cell_below hb hc⟩⟩
theorem Row.alloc {w : World} {kd : IntKind} {A : Option Addr} {l : List Int} (h : Row w kd A l) (o : Obj) : Row (w.alloc o) kd A l := h.below ((Below.refl _ _).alloc (Nat.le_refl _) o)
theorem Row.drew {w : World} {kd : IntKind} {A : Option Addr} {l : List Int} (h : Row w kd A l) : Row w.drew kd A l := h
theorem Row.lt {w : World} {kd : IntKind} {A : Option Addr} {l : List Int} (h : Row w kd A l) : ∀ ad, A = some ad → 0 < l.length → ad.block < w.heap.size := by
  intro ad e hl
  obtain ⟨ad', e', hc⟩ := h.2 0 hl
  have := World.block_lt_of_cell? w _ hc
  rw [add_block] at this
  rw [e] at e'
  injection e' with e'
  rw [e']; exact this
theorem Row.nil (w : World) (kd : IntKind) : Row w kd none [] := ⟨by simp, fun i h => absurd h (Nat.not_lt_zero i)⟩
theorem Row.new (w : World) (kd : IntKind) (l : List Int) (t : TypeId) (fr : Nat × Nat) (h : l.length ≤ 1000) : Row (w.alloc (.cells (l.map (Value.int kd)).toArray t fr)) kd (some ⟨w.heap.size, 0, none⟩) l := by
  refine ⟨by omega, fun j hj => ⟨_, rfl, ?_⟩⟩
  rw [add_new, World.cell?_alloc_mark]
  simp [List.getElem?_eq_getElem hj]

/-- What the reading of a slice of whole numbers gives: the row that the walks take. -/
theorem Row.opened {kd : IntKind} {w : World} {a : Option Addr} {len cap : Nat} (h : (a = none ∧ len = 0 ∧ cap = 0) ∨ ∃ (x : Addr) (zs : List Int), a = some x ∧ len ≤ cap ∧ cap ≤ maxLen ∧ zs.length = cap ∧ (∀ i, i < zs.length → w.cell? (x.add i) = some (.int kd (zs.getD i 0))) ∧ ∀ n ∈ zs, (Lit.int kd n).wf = true) :
    ∃ l : List Int, len = l.length ∧ Row w kd a l ∧ (∀ x ∈ l, (Lit.int kd x).wf = true) ∧ l.length ≤ cap := by
  rcases h with ⟨rfl, rfl, rfl⟩ | ⟨x, zs, rfl, hl, hm, hz, hc, hw⟩
  · exact ⟨[], rfl, Row.nil _ _, fun x hx => by simp at hx, Nat.le_refl _⟩
  · have e : (zs.take len).length = len := by simp; omega
    have hm' : len ≤ maxLen := Nat.le_trans hl hm
    refine ⟨zs.take len, e.symm, ⟨by rw [e]; simpa [maxLen] using hm', fun j hj => ⟨x, rfl, ?_⟩⟩, fun y hy => hw y (List.mem_of_mem_take hy), by rw [e]; exact hl⟩
    rw [e] at hj
    rw [hc j (by omega)]
    simp [List.getD, List.getElem?_eq_getElem (show j < zs.length by omega)]

theorem Row.news {w : World} {kd : IntKind} {ad : Addr} {l : List Int} (h : Row w kd (some ad) l) : ∀ j u, (l.map (Value.int kd))[j]? = some u → w.cell? (ad.add j) = some u := by
  intro j u hu
  rw [List.getElem?_map] at hu
  by_cases hj : j < l.length
  · obtain ⟨ad', e, hc⟩ := h.2 j hj
    injection e with e
    subst e
    rw [List.getElem?_eq_getElem hj] at hu
    rw [hc, ← hu]; rfl
  · rw [List.getElem?_eq_none (by omega)] at hu
    simp at hu
theorem ints_one (kd : IntKind) (l : List Int) : ∀ u ∈ l.map (Value.int kd), u.oneCell' = true := by
  intro u hu
  obtain ⟨x, _, rfl⟩ := List.mem_map.1 hu
  rfl

/-- A row of whole numbers of the call's own, from block g on: its cells (room behind them included) lie in the block. -/
def OwnRow (w : World) (e : TypeId) (kd : IntKind) (g cap : Nat) (l : List Int) : Prop :=
  ∃ cur : Array Value, w.heap[g]? = some (.cells cur e (0, 0)) ∧ l.length ≤ cap ∧ cap ≤ maxLen ∧ cur.size = cap ∧ cur.toList.take l.length = l.map (Value.int kd)
theorem OwnRow.of {w : World} {base : Nat} {e : TypeId} {kd : IntKind} {v : Value} {n : Nat} {l : List Int} (h : w.ownsRow base e 1 v n (l.map (Value.int kd))) (hn : 0 < n) :
    n = l.length ∧ ∃ g cap, v = .slice (some ⟨g, 0, none⟩) n cap ∧ base ≤ g ∧ OwnRow w e kd g cap l := by
  have e1 : l.length = n := by have := h.1; simpa using this
  rcases h.2 with ⟨_, h0⟩ | ⟨g, cap, cur, hv, hg, hh, hle, hm, hs, ht⟩
  · omega
  · exact ⟨e1.symm, g, cap, hv, hg, cur, hh, by omega, hm, by omega, by rw [e1]; simpa using ht⟩
theorem OwnRow.owns {w : World} {base : Nat} {e : TypeId} {kd : IntKind} {g cap : Nat} {l : List Int} (h : OwnRow w e kd g cap l) (hb : base ≤ g) : w.ownsRow base e 1 (.slice (some ⟨g, 0, none⟩) l.length cap) l.length (l.map (Value.int kd)) := by
  obtain ⟨cur, hh, hle, hm, hs, ht⟩ := h
  exact ⟨by simp, .inr ⟨g, cap, cur, rfl, hb, hh, hle, hm, by omega, by simpa using ht⟩⟩
theorem OwnRow.getElem {w : World} {e : TypeId} {kd : IntKind} {g cap : Nat} {l : List Int} (h : OwnRow w e kd g cap l) (j : Nat) (hj : j < l.length) : w.cell? ⟨g, j, none⟩ = some (.int kd l[j]) := by
  obtain ⟨cur, hh, hle, hm, hs, ht⟩ := h
  have e1 : cur[j]? = some (.int kd l[j]) := by
    have := congrArg (fun x => x[j]?) ht
    simp only [List.getElem?_map, List.getElem?_eq_getElem hj, List.getElem?_take_of_lt hj, Option.map_some] at this
    rw [← this, Array.getElem?_toList]
  simp [World.cell?, hh, e1]
theorem OwnRow.free {w : World} {e : TypeId} {kd : IntKind} {g cap : Nat} {l : List Int} (h : OwnRow w e kd g cap l) (j : Nat) : w.frozen? ⟨g, j, none⟩ = false := by
  obtain ⟨cur, hh, _⟩ := h
  simp [World.frozen?, hh]
theorem OwnRow.lt {w : World} {e : TypeId} {kd : IntKind} {g cap : Nat} {l : List Int} (h : OwnRow w e kd g cap l) : g < w.heap.size := by
  obtain ⟨cur, hh, _⟩ := h
  exact lt_of_block hh
theorem OwnRow.row {w : World} {e : TypeId} {kd : IntKind} {g cap : Nat} {l : List Int} (h : OwnRow w e kd g cap l) : Row w kd (some ⟨g, 0, none⟩) l := by
  have hl : l.length ≤ 9223372036854775807 := by
    obtain ⟨cur, hh, hle, hm, hs, ht⟩ := h
    unfold maxLen at hm; omega
  exact ⟨hl, fun i hi => ⟨_, rfl, by rw [add_new]; exact h.getElem i hi⟩⟩
theorem OwnRow.kept {w w1 : World} {e : TypeId} {kd : IntKind} {g cap : Nat} {l : List Int} (h : OwnRow w e kd g cap l) (hk : w1.heap[g]? = w.heap[g]?) : OwnRow w1 e kd g cap l := by
  obtain ⟨cur, hh, r⟩ := h
  exact ⟨cur, by rw [hk]; exact hh, r⟩
theorem OwnRow.below {w w1 : World} {e : TypeId} {kd : IntKind} {g cap : Nat} {l : List Int} (h : OwnRow w e kd g cap l) (hb : Below w.heap.size w w1) : OwnRow w1 e kd g cap l := h.kept (hb.block g h.lt)
theorem OwnRow.set {w : World} {e : TypeId} {kd : IntKind} {g cap : Nat} {l : List Int} (h : OwnRow w e kd g cap l) (j : Nat) (x : Int) : OwnRow (w.setCell ⟨g, j, none⟩ (.int kd x)) e kd g cap (l.set j x) := by
  obtain ⟨cur, hh, hle, hm, hs, ht⟩ := h
  have hlt := lt_of_block hh
  have h' : w.heap[g] = .cells cur e (0, 0) := by simpa [Array.getElem?_eq_getElem hlt] using hh
  refine ⟨cur.setIfInBounds j (.int kd x), ?_, by simpa using hle, hm, by simpa using hs, ?_⟩
  · show (w.heap.modify g _)[g]? = _
    rw [Array.getElem?_eq_getElem (by simpa using hlt), Array.getElem_modify_self, h']
    rfl
  · rw [List.length_set, Array.toList_setIfInBounds, List.take_set, ht, List.map_set]

/-- string(b) of a row of bytes. -/
theorem Row.string {P : Program} {w : World} {src dst e : TypeId} {A : Option Addr} {c : Nat} {l : List Int} (hs : P.underlying src = some (.slice e)) (he : P.underlying e = some (.int .u8)) (hd : P.underlying dst = some .string)
    (h : Row w .u8 A l) : Sem.run P (convert src dst (.slice A l.length c)) w = .ok (.string (strOfNums l)) w := by
  rcases A with _ | ad
  · have h0 : l = [] := by
      cases l with
      | nil => rfl
      | cons x l => obtain ⟨ad, h', _⟩ := h.2 0 (by simp); cases h'
    subst h0
    exact run_convert_bytes_nil w src e hs he 0 c dst hd
  · have hl : (loadCells ad l.length).run P w = .ok (l.map (Value.int .u8)).toArray w := by
      have := run_loadCells_list (P := P) w ad (l.map (Value.int .u8)) h.news
      simpa using this
    rw [run_convert_bytes_string w src dst e _ l.length c hs he hd, run_bytesToString w ad l.length c l hl, foldl_push_bytes]
    simp [strOfNums, ByteArray.empty, ByteArray.emptyWithCapacity]
    rfl
theorem str_inj {xs ys : List Nat} (hx : ∀ b ∈ xs, b < 256) (hy : ∀ b ∈ ys, b < 256) (h : strOfNums (xs.map Int.ofNat) = strOfNums (ys.map Int.ofNat)) : xs = ys := by
  unfold strOfNums at h
  have h1 := congrArg (fun s : ByteArray => s.data.toList) h
  simp only [List.map_map] at h1
  have h2 := congrArg (List.map UInt8.toNat) h1
  simp only [List.map_map] at h2
  have id_of : ∀ l : List Nat, (∀ b ∈ l, b < 256) → l.map (UInt8.toNat ∘ (fun n : Int => UInt8.ofNat n.toNat) ∘ Int.ofNat) = l := by
    intro l hl
    calc l.map _ = l.map id := List.map_congr_left fun b hb => by
          have := hl b hb
          simp [Nat.mod_eq_of_lt this]
      _ = l := List.map_id l
  rwa [id_of xs hx, id_of ys hy] at h2
theorem below_drewN {B : Nat} {a w : World} (h : Below B a w) (n : Nat) : Below B a (w.drewN n) := ⟨h.os, h.tape, h.output, h.size, h.block⟩
/-- Two steps of one walk. -/
theorem below_step {w w1 w2 : World} (h : Below w.heap.size w w1) (k : Below w1.heap.size w1 w2) : Below w.heap.size w w2 := h.trans (k.mono h.size)

theorem OwnRow.of' {w : World} {base : Nat} {e : TypeId} {kd : IntKind} {v : Value} {n : Nat} {l : List Int} (h : w.ownsRow base e 1 v n (l.map (Value.int kd))) (hv : v ≠ .slice none 0 0) :
    n = l.length ∧ ∃ g cap, v = .slice (some ⟨g, 0, none⟩) n cap ∧ base ≤ g ∧ OwnRow w e kd g cap l := by
  have e1 : l.length = n := by have := h.1; simpa using this
  rcases h.2 with ⟨h0, _⟩ | ⟨g, cap, cur, hv, hg, hh, hle, hm, hs, ht⟩
  · exact absurd h0 hv
  · exact ⟨e1.symm, g, cap, hv, hg, cur, hh, by omega, hm, by omega, by rw [e1]; simpa using ht⟩
theorem Row.none_nil {w : World} {kd : IntKind} {l : List Int} (h : Row w kd none l) : l = [] := by
  cases l with
  | nil => rfl
  | cons x l => obtain ⟨_, h', _⟩ := h.2 0 (by simp); cases h'
/-- append(all, li...): all is a row of the call's own, not nil; li is any row that reads. -/
theorem wpList_append_rows {P : Program} {w : World} {ops : Array Oper} {rest : List Oper} {o : Oper} {a : Act} {Q : Exit → Act → World → Prop} (hgd : o.guard = none) (s x : Operand) (t : TypeId)
    (ho : o.op = .call { callee := .builtin .append, args := #[s, x], argTypes := #[t, t] })
    (e : TypeId) (kd : IntKind) (bytes : Nat) (ht : P.underlying t = some (.slice e)) (hinfo : (P.info? e).map (fun i => (i.zero, i.size, i.bytes)) = some (some (.int kd 0), 1, bytes)) (hby : bytes ≤ 16)
    (base g cp : Nat) (all li : List Int) (hs : a.eval s = .slice (some ⟨g, 0, none⟩) all.length cp) (hown : OwnRow w e kd g cp all) (hg : base ≤ g) (hbase : base ≤ w.heap.size)
    (A : Option Addr) (c : Nat) (hx : a.eval x = .slice A li.length c) (hrow : Row w kd A li) (hnil : A = none → c = 0) (hsz : all.length + li.length ≤ 1000000000)
    (h : ∀ g' cp' w', OwnRow w' e kd g' cp' (all ++ li) → base ≤ g' → w.grownBy w' (some g) → (g' = g ∨ g' = w.heap.size) → wpList P ops Q rest (a.put o.dst (.slice (some ⟨g', 0, none⟩) (all.length + li.length) cp')) w') : wpList P ops Q (o :: rest) a w := by
  obtain ⟨i0, hi, hz0, hz1, hz2⟩ := info_parts hinfo
  rcases A with _ | ad
  · obtain rfl := hrow.none_nil
    obtain rfl := hnil rfl
    refine wpList_append_own_none hgd s x t ho base e i0 1 ht hi _ all.length (all.map (Value.int kd)) hs (hown.owns hg) hx ?_
    exact h g cp w (by rw [List.append_nil]; exact hown) hg ⟨rfl, rfl, rfl, Nat.le_refl _, fun _ _ _ => rfl⟩ (.inl rfl)
  · refine wpList_append_own_at w hgd s x t ho base e i0 (.int kd 0) 1 bytes ht hi hz0 hz1 hz2 rfl (by decide) _ all.length (all.map (Value.int kd)) hs (hown.owns hg) ad li.length c (li.map (Value.int kd)) hx (by simp) hrow.news (ints_one _ _) (by unfold maxLen; omega) ?_ hbase ?_
    · have : (all.length + li.length) * bytes ≤ 1000000000 * 16 := Nat.mul_le_mul hsz hby
      omega
    · intro v w' hown' hgrow hiff hat
      have hne : v ≠ .slice none 0 0 := fun e => by cases (hiff.1 e).1
      rw [← List.map_append] at hown'
      obtain ⟨_, g', cp', rfl, hg', hr'⟩ := OwnRow.of' hown' hne
      refine h g' cp' w' hr' hg' hgrow ?_
      rcases hat with h1 | h1
      · exact .inl (by simpa [Value.ownBlock] using h1)
      · exact .inr (by simpa [Value.ownBlock] using h1)
end Go.Proofs.Ytlndlcdamimbdaa
