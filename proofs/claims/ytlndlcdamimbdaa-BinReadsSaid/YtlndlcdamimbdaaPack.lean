/- The walk of slot's Pack. -/
import Derived.Test.YtlndlcdamimbdaaKey
import Derived.IntWalk
namespace Go.Proofs.Ytlndlcdamimbdaa
open Go.RowKit

theorem OwnRow.after {w w1 : World} {e : TypeId} {kd : IntKind} {g cap : Nat} {l : List Int} (hb : Below w.heap.size w w1) (h : OwnRow w e kd g cap l) : OwnRow w1 e kd g cap l := h.below hb
theorem Row.grew {w w1 : World} {kd : IntKind} {ad : Addr} {l : List Int} {r : Nat} (hg : w.grownBy w1 (some r)) (hne : ad.block ≠ r) (h : Row w kd (some ad) l) : Row w1 kd (some ad) l :=
  ⟨h.1, fun i hi => by
    obtain ⟨ad', e, hc⟩ := h.2 i hi
    injection e with e
    subst e
    refine ⟨ad, rfl, ?_⟩
    have hlt := World.block_lt_of_cell? w _ hc
    rw [← hc]
    exact World.cell?_of_block (w := w) (hg.block _ hlt (by rw [add_block]; intro e; injection e with e; exact hne e))⟩
theorem Blk.six {w : World} {g : Nat} {t : TypeId} {a b c d e f : Value} (h : Blk w g t #[a, b, c, d, e, f]) : w.cell? ⟨g, 0, none⟩ = some a ∧ w.cell? ⟨g, 1, none⟩ = some b ∧ w.cell? ⟨g, 2, none⟩ = some c ∧ w.cell? ⟨g, 3, none⟩ = some d ∧ w.cell? ⟨g, 4, none⟩ = some e ∧ w.cell? ⟨g, 5, none⟩ = some f := ⟨h.cell 0, h.cell 1, h.cell 2, h.cell 3, h.cell 4, h.cell 5⟩
/-- A slot's sixteen bytes. -/
def packL (hi lo : Nat) (kind score : Int) (wk : Nat) (age : Int) : List Int := ((fixL lo 8 ++ [(hi : Int)]) ++ [IntKind.u8.wrap kind, IntKind.u8.wrap (IntKind.i64.wrap (score + 32))]) ++ fixL wk 4 ++ [IntKind.u8.wrap age]

set_option maxHeartbeats 4000000 in
theorem pack_yes (hi lo : Nat) (kind score : Int) (wk : Nat) (age : Int) (w : World) (h : hi < 256) (hwk : wk < 2 ^ 32) (hm : mayS ⟨hi, lo, kind, score, wk, age⟩ = true) : Calls Try.prog 49 #[.agg #[.int .u64 hi, .int .u64 lo, .int .i64 kind, .int .i64 score, .int .i64 wk, .int .i64 age]] w fun e w' => ∃ g cp, w.heap.size ≤ g ∧ e = .returned (.slice (some ⟨g, 0, none⟩) 16 cp) ∧ OwnRow w' 5 .u8 g cp (packL hi lo kind score wk age) ∧ Below w.heap.size w w' := by
  have HF : Hid (∀ w : World, Calls Try.prog 32 #[.int .u64 (IntKind.u64.wrap (wk : Int)), .int .i64 4] w fun e w' => ∃ g cp, w.heap.size ≤ g ∧ e = .returned (.slice (some ⟨g, 0, none⟩) 4 cp) ∧ OwnRow w' 5 .u8 g cp (fixL wk 4) ∧ Below w.heap.size w w') := fun w => by
    rw [IntWalk.u64_in (wk : Int) ⟨by omega, by omega⟩]
    exact fixed_yes wk 4 w (by omega) (by omega) (.inr (by simpa using hwk))
  clear hwk
  have HKey : Hid (∀ w : World, Calls Try.prog 36 #[.agg #[.int .u64 hi, .int .u64 lo]] w fun e w' => ∃ g cp, w.heap.size ≤ g ∧ e = .returned (.slice (some ⟨g, 0, none⟩) 9 cp) ∧ OwnRow w' 5 .u8 g cp (fixL lo 8 ++ [(hi : Int)]) ∧ Below w.heap.size w w') := fun w => key_yes hi lo w h
  have HM := Lib.hid (may_any ⟨hi, lo, kind, score, wk, age⟩)
  have HMT := Lib.hid hm
  have hk0 := Blk.new w 38 #[.int .u64 hi, .int .u64 lo, .int .i64 kind, .int .i64 score, .int .i64 wk, .int .i64 age]
  have HK0 := Lib.hid hk0
  clear hk0 hm h
  go_enter Try.func49, Try.ntmps49
  go_wp2_with fail
  refine (HM.out _).mono ?_
  rintro e w1 ⟨rfl, hb1⟩
  rw [HMT.out]
  have hs1 : w.heap.size + 1 ≤ w1.heap.size := by have := hb1.size; simpa using this
  have HB1 := Lib.hid (below_via hb1 ((Below.refl _ w).alloc (Nat.le_refl _) _))
  have HK := Lib.hid (Blk.after hb1 HK0.out)
  clear hb1 HK0 HM HMT
  go_wp2_with fail
  go_region_held3 (fun w' => w'.cell? ⟨w.heap.size, 0, none⟩ = some (.int .u64 hi) ∧ w'.cell? ⟨w.heap.size, 1, none⟩ = some (.int .u64 lo) ∧ w'.cell? ⟨w.heap.size, 2, none⟩ = some (.int .i64 kind) ∧ w'.cell? ⟨w.heap.size, 3, none⟩ = some (.int .i64 score) ∧ w'.cell? ⟨w.heap.size, 4, none⟩ = some (.int .i64 wk) ∧ w'.cell? ⟨w.heap.size, 5, none⟩ = some (.int .i64 age)) (first | exact hst.six | exact (hst.alloc _).six | exact HK.out.six | exact (HK.out.alloc _).six) (first
    | (go_at_call 36; refine (HKey.out _).mono ?_; rintro e w' ⟨g, cp, hg, rfl, hown, hb⟩
       have hst : Blk w' w.heap.size 38 #[.int .u64 hi, .int .u64 lo, .int .i64 kind, .int .i64 score, .int .i64 wk, .int .i64 age] := by first | exact Blk.after hb HK.out | exact Blk.after hb (HK.out.alloc _)
       have hg1 : w1.heap.size ≤ g := by simp at hg; omega)
    | (refine step_append_rows rfl (.tmp 9) (.tmp 17) rfl w1.heap.size g cp 9 2 (fixL lo 8 ++ [(hi : Int)]) [IntKind.u8.wrap kind, IntKind.u8.wrap (IntKind.i64.wrap (score + 32))] (by simp [fixL_length]) rfl (by simp [Act.eval]) (by first | exact hown.alloc _ | exact hown) hg1 (by have := hb.size; simp at this ⊢; omega) ⟨_, 0, none⟩ 2 (by simp [Act.eval]; rfl) (by first | exact Row.new _ .u8 [_, _] 5 (0, 0) (by simp) | exact Row.after hb (Row.drew (Row.new w1 .u8 [_, _] 5 (0, 0) (by simp)))) (by omega) (by omega) ?_; intro g' cp' w2 hown2 hg2 hgrow
       have hne : w.heap.size ≠ g := by omega
       have hst : Blk w2 w.heap.size 38 #[.int .u64 hi, .int .u64 lo, .int .i64 kind, .int .i64 score, .int .i64 wk, .int .i64 age] := by first | exact Blk.grew hgrow hne (hst.alloc _) | exact Blk.grew hgrow hne hst
       have hB : Below w.heap.size w w2 := by
         refine Below.grown (w := _) ?_ hgrow ?_ ?_
         · first | exact (below_via hb (HB1.out.drew)).alloc (by have := hb.size; simp at this; omega) _ | exact below_via hb ((HB1.out.alloc (by omega) _).drew)
         · have := hb.size; simp at this ⊢; omega
         · intro r hr; simp at hr; omega
       clear hown hg hb hgrow hne hg1))
  all_goals have HO := Lib.hid hown2
  all_goals have HB2 := Lib.hid hB
  all_goals have HK2 := Lib.hid hst
  all_goals clear hown2 hB hst HK HB1 HKey
  all_goals go_wp2_with fail
  all_goals (
    have hlt2 := HO.out.lt
    go_region_held3 (fun w' => w'.cell? ⟨w.heap.size, 0, none⟩ = some (.int .u64 hi) ∧ w'.cell? ⟨w.heap.size, 1, none⟩ = some (.int .u64 lo) ∧ w'.cell? ⟨w.heap.size, 2, none⟩ = some (.int .i64 kind) ∧ w'.cell? ⟨w.heap.size, 3, none⟩ = some (.int .i64 score) ∧ w'.cell? ⟨w.heap.size, 4, none⟩ = some (.int .i64 wk) ∧ w'.cell? ⟨w.heap.size, 5, none⟩ = some (.int .i64 age)) (first | exact hst.six | exact (hst.alloc _).six | exact HK2.out.six | exact (HK2.out.alloc _).six) (first
    | (go_at_call 32; refine (HF.out _).mono ?_; rintro e w3 ⟨g3, cp3, hg3, rfl, hown3, hb3⟩
       have hst : Blk w3 w.heap.size 38 #[.int .u64 hi, .int .u64 lo, .int .i64 kind, .int .i64 score, .int .i64 wk, .int .i64 age] := by first | exact Blk.after hb3 HK2.out | exact Blk.after hb3 (HK2.out.alloc _)
       have hB3 : Below w.heap.size w w3 := by first | exact below_via hb3 HB2.out.drew | exact below_via hb3 (HB2.out.alloc (by omega) _).drew
       have hO3 : OwnRow w3 5 .u8 g' cp' ((fixL lo 8 ++ [(hi : Int)]) ++ [IntKind.u8.wrap kind, IntKind.u8.wrap (IntKind.i64.wrap (score + 32))]) := by first | exact OwnRow.after hb3 HO.out | exact OwnRow.after hb3 (HO.out.alloc _)
       have hs3 : w2.heap.size ≤ w3.heap.size := by have := hb3.size; (try simp at this); omega
       have hg3' : w2.heap.size ≤ g3 := by (try simp at hg3); omega)
    | (refine step_append_rows rfl (.tmp 19) (.tmp 23) rfl w1.heap.size g' cp' 11 4 ((fixL lo 8 ++ [(hi : Int)]) ++ [IntKind.u8.wrap kind, IntKind.u8.wrap (IntKind.i64.wrap (score + 32))]) (fixL wk 4) (by simp [fixL_length]) (fixL_length _ _) (by simp [Act.eval]) (by first | exact hO3.alloc _ | exact hO3) hg2 (by (try simp); omega) ⟨g3, 0, none⟩ cp3 (by simp [Act.eval]) (by first | exact (hown3.alloc _).row | exact hown3.row) (by omega) (by omega) ?_; intro g4 cp4 w4 hown4 hg4 hgrow4
       have hne4 : w.heap.size ≠ g' := by omega
       have hst : Blk w4 w.heap.size 38 #[.int .u64 hi, .int .u64 lo, .int .i64 kind, .int .i64 score, .int .i64 wk, .int .i64 age] := by first | exact Blk.grew hgrow4 hne4 (hst.alloc _) | exact Blk.grew hgrow4 hne4 hst
       have hs4 : w3.heap.size ≤ w4.heap.size := by have := hgrow4.size; (try simp at this); omega
       have hB4 : Below w.heap.size w w4 := by first | exact Below.grown (hB3.alloc (by omega) _) hgrow4 (by simp; omega) (by intro r hr; simp at hr; omega) | exact Below.grown hB3 hgrow4 (by omega) (by intro r hr; simp at hr; omega))
    | (refine step_append_rows rfl (.tmp 24) (.tmp 28) rfl w1.heap.size g4 cp4 15 1 (((fixL lo 8 ++ [(hi : Int)]) ++ [IntKind.u8.wrap kind, IntKind.u8.wrap (IntKind.i64.wrap (score + 32))]) ++ fixL wk 4) [IntKind.u8.wrap age] (by simp [fixL_length]) rfl (by simp [Act.eval]) (by first | exact hown4.alloc _ | exact hown4) hg4 (by (try simp); omega) ⟨w4.heap.size, 0, none⟩ 1 (by simp [Act.eval]) (Row.new w4 .u8 [_] 5 (0, 0) (by simp)) (by omega) (by omega) ?_; intro g5 cp5 w5 hown5 hg5 hgrow5
       have hne5 : w.heap.size ≠ g4 := by omega
       have hst : Blk w5 w.heap.size 38 #[.int .u64 hi, .int .u64 lo, .int .i64 kind, .int .i64 score, .int .i64 wk, .int .i64 age] := by first | exact Blk.grew hgrow5 hne5 (hst.alloc _) | exact Blk.grew hgrow5 hne5 hst
       have hB5 : Below w.heap.size w w5 := by first | exact Below.grown (hB4.alloc (by omega) _) hgrow5 (by simp; omega) (by intro r hr; simp at hr; omega) | exact Below.grown hB4 hgrow5 (by omega) (by intro r hr; simp at hr; omega)
       clear hgrow5 hgrow4 hb3 hown4 hown3 hO3 hB3 hB4)
    | (refine step_append_rows rfl (.tmp 24) (.tmp 28) rfl w1.heap.size g4 cp4 15 1 (((fixL lo 8 ++ [(hi : Int)]) ++ [IntKind.u8.wrap kind, IntKind.u8.wrap (IntKind.i64.wrap (score + 32))]) ++ fixL wk 4) [IntKind.u8.wrap age] (by simp [fixL_length]) rfl (by simp [Act.eval]) (by first | exact hown4.alloc _ | exact hown4) hg4 (by (try simp); omega) ⟨w3.heap.size, 0, none⟩ 1 (by simp [Act.eval]) (Row.grew hgrow4 (by show w3.heap.size ≠ g'; omega) (Row.new w3 .u8 [_] 5 (0, 0) (by simp))) (by omega) (by omega) ?_; intro g5 cp5 w5 hown5 hg5 hgrow5
       have hne5 : w.heap.size ≠ g4 := by omega
       have hst : Blk w5 w.heap.size 38 #[.int .u64 hi, .int .u64 lo, .int .i64 kind, .int .i64 score, .int .i64 wk, .int .i64 age] := by first | exact Blk.grew hgrow5 hne5 (hst.alloc _) | exact Blk.grew hgrow5 hne5 hst
       have hB5 : Below w.heap.size w w5 := by first | exact Below.grown (hB4.alloc (by omega) _) hgrow5 (by simp; omega) (by intro r hr; simp at hr; omega) | exact Below.grown hB4 hgrow5 (by omega) (by intro r hr; simp at hr; omega)
       clear hgrow5 hgrow4 hb3 hown4 hown3 hO3 hB3 hB4)
    | (refine step_append_rows rfl (.tmp 24) (.tmp 28) rfl w1.heap.size g4 cp4 15 1 (((fixL lo 8 ++ [(hi : Int)]) ++ [IntKind.u8.wrap kind, IntKind.u8.wrap (IntKind.i64.wrap (score + 32))]) ++ fixL wk 4) [IntKind.u8.wrap age] (by simp [fixL_length]) rfl (by simp [Act.eval]) (by first | exact hown4.alloc _ | exact hown4) hg4 (by (try simp); omega) ⟨w2.heap.size, 0, none⟩ 1 (by simp [Act.eval]) (Row.grew hgrow4 (by show w2.heap.size ≠ g'; omega) (Row.after hb3 (Row.drew (Row.new w2 .u8 [_] 5 (0, 0) (by simp))))) (by omega) (by omega) ?_; intro g5 cp5 w5 hown5 hg5 hgrow5
       have hne5 : w.heap.size ≠ g4 := by omega
       have hst : Blk w5 w.heap.size 38 #[.int .u64 hi, .int .u64 lo, .int .i64 kind, .int .i64 score, .int .i64 wk, .int .i64 age] := by first | exact Blk.grew hgrow5 hne5 (hst.alloc _) | exact Blk.grew hgrow5 hne5 hst
       have hB5 : Below w.heap.size w w5 := by first | exact Below.grown (hB4.alloc (by omega) _) hgrow5 (by simp; omega) (by intro r hr; simp at hr; omega) | exact Below.grown hB4 hgrow5 (by omega) (by intro r hr; simp at hr; omega)
       clear hgrow5 hgrow4 hb3 hown4 hown3 hO3 hB3 hB4))
    all_goals have HO5 := Lib.hid hown5
    all_goals have HB5 := Lib.hid hB5
    all_goals clear hown5 hB5 hst
    all_goals go_wp2
    all_goals go_ret
    all_goals exact ⟨g5, cp5, by omega, rfl, HO5.out, HB5.out⟩)
end Go.Proofs.Ytlndlcdamimbdaa
