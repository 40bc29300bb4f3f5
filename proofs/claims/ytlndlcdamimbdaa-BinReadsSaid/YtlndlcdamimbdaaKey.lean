/- The walk of bin's Key. -/
import Derived.Test.YtlndlcdamimbdaaFixed
import Derived.Deep.RegionHeld3
import Derived.Deep.AppendLies
namespace Go.Proofs.Ytlndlcdamimbdaa
open Go.RowKit

theorem OwnRow.alloc {w : World} {e : TypeId} {kd : IntKind} {g cap : Nat} {l : List Int} (h : OwnRow w e kd g cap l) (o : Obj) : OwnRow (w.alloc o) e kd g cap l := h.below ((Below.refl _ _).alloc (Nat.le_refl _) o)
theorem info5 : (Try.prog.info? 5).map (fun i => (i.zero, i.size, i.bytes)) = some (some (.int .u8 0), 1, 1) := by kernel_rfl
/-- append(all, li...) of bytes, as one step of a region that draws its order. -/
theorem step_append_rows {ops : Array Oper} {o : Oper} {a : Act} {w : World} {K : Act → World → Prop} {Q : Exit → Act → World → Prop} {E : Prop} (hgd : o.guard = none) (s x : Operand)
    (ho : o.op = .call { callee := .builtin .append, args := #[s, x], argTypes := #[49, 49] })
    (base g cp n m : Nat) (all li : List Int) (hn : all.length = n) (hm : li.length = m) (hs : a.eval s = .slice (some ⟨g, 0, none⟩) n cp) (hown : OwnRow w 5 .u8 g cp all) (hg : base ≤ g) (hbase : base ≤ w.heap.size)
    (ad : Addr) (c : Nat) (hx : a.eval x = .slice (some ad) m c) (hrow : Row w .u8 (some ad) li) (hpos : 0 < m) (hsz : n + m ≤ 1000000000)
    (h : ∀ g' cp' w', OwnRow w' 5 .u8 g' cp' (all ++ li) → base ≤ g' → w.grownBy w' (some g) → K (a.put o.dst (.slice (some ⟨g', 0, none⟩) (n + m) cp')) w') :
    if Region.wanted o (yielded ops a.tmps) = true then Oper.wp Try.prog o a w K Q else E := by
  subst hn
  subst hm
  obtain ⟨i0, hi, hz0, hz1, hz2⟩ := info_parts info5
  refine step_append_lies (P := Try.prog) w hgd s x 49 ho base 5 i0 (.int .u8 0) 1 1 Try.underlying49 hi hz0 hz1 hz2 rfl (by decide) _ all.length (all.map (Value.int .u8)) hs (hown.owns hg) ad li.length c (li.map (Value.int .u8)) hx (by simp) hrow.news (ints_one _ _) hpos (by unfold maxLen; omega) (by omega) hbase _ rfl ?_
  intro g' cap w' hown' hgrow _ _
  rw [← List.map_append] at hown'
  obtain ⟨_, g2, cp2, e, hg2, hr⟩ := OwnRow.of' hown' (by simp)
  injection e with e1 e2 e3
  injection e1 with e1
  injection e1 with e1
  subst e1
  subst e3
  exact h _ _ w' hr hg2 hgrow

theorem Row.after {w w1 : World} {kd : IntKind} {A : Option Addr} {l : List Int} (hb : Below w.heap.size w w1) (h : Row w kd A l) : Row w1 kd A l := h.below hb
theorem below_via {w W w1 : World} (hb : Below W.heap.size W w1) (h0 : Below w.heap.size w W) : Below w.heap.size w w1 := h0.trans (hb.mono h0.size)
theorem one_row (w : World) (x : Int) (o : Obj) : Row ((w.alloc o).alloc (.cells #[.int .u8 x] 5)).drew .u8 (some ⟨w.heap.size + 1, 0, none⟩) [x] := by
  have h := Row.new (w.alloc o) .u8 [x] 5 (0, 0) (by simp)
  rw [World.size_alloc] at h
  exact h
/-- A block of the call's own that holds these cells. -/
def Blk (w : World) (g : Nat) (t : TypeId) (cs : Array Value) : Prop := w.heap[g]? = some (.cells cs t (0, 0))
theorem Blk.lt {w : World} {g : Nat} {t : TypeId} {cs : Array Value} (h : Blk w g t cs) : g < w.heap.size := lt_of_block h
theorem Blk.below {w w1 : World} {g : Nat} {t : TypeId} {cs : Array Value} (h : Blk w g t cs) (hb : Below w.heap.size w w1) : Blk w1 g t cs := (hb.block g h.lt).trans h
theorem Blk.after {w w1 : World} {g : Nat} {t : TypeId} {cs : Array Value} (hb : Below w.heap.size w w1) (h : Blk w g t cs) : Blk w1 g t cs := (hb.block g h.lt).trans h
theorem Blk.grew {w w1 : World} {g r : Nat} {t : TypeId} {cs : Array Value} (hb : w.grownBy w1 (some r)) (hne : g ≠ r) (h : Blk w g t cs) : Blk w1 g t cs := (hb.block g h.lt (by intro e; injection e with e; exact hne e)).trans h
theorem Blk.alloc {w : World} {g : Nat} {t : TypeId} {cs : Array Value} (h : Blk w g t cs) (o : Obj) : Blk (w.alloc o) g t cs := h.below ((Below.refl _ _).alloc (Nat.le_refl _) o)
theorem Blk.new (w : World) (t : TypeId) (cs : Array Value) : Blk (w.alloc (.cells cs t)) w.heap.size t cs := heap_alloc_new w _
theorem Blk.cell {w : World} {g : Nat} {t : TypeId} {cs : Array Value} (h : Blk w g t cs) (i : Nat) : w.cell? ⟨g, i, none⟩ = cs[i]? := Go.Joins.cell_of_block h i
theorem Blk.two {w : World} {g : Nat} {t : TypeId} {a b : Value} (h : Blk w g t #[a, b]) : w.cell? ⟨g, 0, none⟩ = some a ∧ w.cell? ⟨g, 1, none⟩ = some b := ⟨h.cell 0, h.cell 1⟩

theorem wrap_u8 (x : Nat) (h : x < 256) : IntKind.u8.wrap (x : Int) = x := by first | (simp [IntKind.wrap, IntKind.bits, IntKind.signed]; omega) | (unfold IntKind.wrap; simp; omega)
set_option maxHeartbeats 1600000 in
theorem key_yes (hi lo : Nat) (w : World) (h : hi < 256) : Calls Try.prog 36 #[.agg #[.int .u64 hi, .int .u64 lo]] w fun e w' => ∃ g cp, w.heap.size ≤ g ∧ e = .returned (.slice (some ⟨g, 0, none⟩) 9 cp) ∧ OwnRow w' 5 .u8 g cp (fixL lo 8 ++ [(hi : Int)]) ∧ Below w.heap.size w w' := by
  have HF : Hid (∀ w : World, Calls Try.prog 32 #[.int .u64 lo, .int .i64 8] w fun e w' => ∃ g cp, w.heap.size ≤ g ∧ e = .returned (.slice (some ⟨g, 0, none⟩) 8 cp) ∧ OwnRow w' 5 .u8 g cp (fixL lo 8) ∧ Below w.heap.size w w') := fun w => fixed_yes lo 8 w (by omega) (by omega) (.inl rfl)
  have hk0 := Blk.new w 35 #[.int .u64 hi, .int .u64 lo]
  have HK := Lib.hid hk0
  clear hk0
  go_enter Try.func36, Try.ntmps36
  go_wp2_with fail
  go_region_held3 (fun w' => w'.cell? ⟨w.heap.size, 0, none⟩ = some (.int .u64 hi) ∧ w'.cell? ⟨w.heap.size, 1, none⟩ = some (.int .u64 lo)) (first | exact hst.two | exact HK.out.two | exact (HK.out.alloc _).two | exact (Blk.after hb HK.out).two | exact ((Blk.after hb HK.out).alloc _).two | exact (Blk.after hb (HK.out.alloc _)).two) (first
    | (go_at_call 32; refine (HF.out _).mono ?_; rintro e w' ⟨g, cp, hg, rfl, hown, hb⟩)
    | (refine step_append_rows rfl (.tmp 8) (.tmp 12) rfl w.heap.size g cp 8 1 (fixL lo 8) [IntKind.u8.wrap hi] (fixL_length _ _) rfl (by simp [Act.eval]) (by first | exact hown.alloc _ | exact hown) (by simp at hg; omega) (by have := hb.size; simp at this ⊢; omega) ⟨_, 0, none⟩ 1 (by simp [Act.eval]; rfl) (by first | exact Row.new _ .u8 [_] 5 (0, 0) (by simp) | exact Row.after hb (one_row w _ _)) (by omega) (by omega) ?_; intro g' cp' w2 hown2 hg2 hgrow
       have hne : w.heap.size ≠ g := by simp at hg; omega
       have hst : Blk w2 w.heap.size 35 #[.int .u64 hi, .int .u64 lo] := by first | exact Blk.grew hgrow hne ((Blk.after hb HK.out).alloc _) | exact Blk.grew hgrow hne (Blk.after hb (HK.out.alloc _))
       have hB : Below w.heap.size w w2 := by
         refine Below.grown (w := _) ?_ hgrow ?_ ?_
         · first | exact (below_via hb ((Below.refl _ w).alloc (Nat.le_refl _) _).drew).alloc (by have := hb.size; simp at this; omega) _ | exact below_via hb (((Below.refl _ w).alloc (Nat.le_refl _) _).alloc (by simp) _).drew
         · have := hb.size; simp at this ⊢; omega
         · intro r hr; simp at hr hg; omega
       clear hown hg hb hgrow hne))
  all_goals have HO := Lib.hid hown2
  all_goals have HB := Lib.hid hB
  all_goals have HW := Lib.hid (wrap_u8 hi h)
  all_goals clear hown2 hB hst HK HF
  all_goals go_wp2
  all_goals go_ret
  all_goals exact ⟨g', cp', hg2, rfl, by rw [← HW.out]; exact HO.out, HB.out⟩
end Go.Proofs.Ytlndlcdamimbdaa
