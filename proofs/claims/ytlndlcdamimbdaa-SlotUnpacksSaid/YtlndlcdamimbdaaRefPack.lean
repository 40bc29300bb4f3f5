/- The walk of the reference's Pack. -/
import Derived.Test.YtlndlcdamimbdaaRefKey
import Derived.Test.YtlndlcdamimbdaaPack
namespace Go.Proofs.Ytlndlcdamimbdaa
open Go.RowKit

set_option maxRecDepth 100000 in
set_option maxHeartbeats 4000000 in
theorem refPack_yes (hi lo : Nat) (kind score : Int) (wk : Nat) (age : Int) (w : World) (h : hi < 256) (hlo : lo < 18446744073709551616) (hwk : wk < 2 ^ 32) (hsc : -32 ≤ score) (hsc2 : score ≤ 32) (hm : mayS ⟨hi, lo, kind, score, wk, age⟩ = true) : Calls Try.prog 50 #[.agg #[.int .u64 hi, .int .u64 lo, .int .i64 kind, .int .i64 score, .int .i64 wk, .int .i64 age]] w fun e w' => ∃ g cp, w.heap.size ≤ g ∧ e = .returned (.slice (some ⟨g, 0, none⟩) 16 cp) ∧ OwnRow w' 5 .u8 g cp (packL hi lo kind score wk age) ∧ Below w.heap.size w w' := by
  have HKey : Hid (∀ w : World, Calls Try.prog 37 #[.agg #[.int .u64 hi, .int .u64 lo]] w fun e w' => ∃ g cp, w.heap.size ≤ g ∧ e = .returned (.slice (some ⟨g, 0, none⟩) 9 cp) ∧ OwnRow w' 5 .u8 g cp (fixL lo 8 ++ [(hi : Int)]) ∧ Below w.heap.size w w') := fun w => refKey_yes hi lo w h hlo
  have HF : Hid (∀ w : World, Calls Try.prog 33 #[.int .u64 (wk : Int), .int .i64 4] w fun e w' => ∃ g cp, w.heap.size ≤ g ∧ e = .returned (.slice (some ⟨g, 0, none⟩) 4 cp) ∧ OwnRow w' 5 .u8 g cp (fixL wk 4) ∧ Below w.heap.size w w') := fun w => refFixed_yes wk 4 w (by omega) (by omega) (by omega) (Nat.div_eq_of_lt (by simpa using hwk))
  have HM := Lib.hid (refMay22_any ⟨hi, lo, kind, score, wk, age⟩)
  have HMT := Lib.hid hm
  have hk0 := Blk.new w 38 #[.int .u64 hi, .int .u64 lo, .int .i64 kind, .int .i64 score, .int .i64 wk, .int .i64 age]
  have HK0 := Lib.hid hk0
  clear hk0 hm h hlo
  go_enter Try.func50, Try.ntmps50
  go_wp2_with fail
  refine (HM.out _).mono ?_
  rintro e w1 ⟨rfl, hb1⟩
  rw [HMT.out]
  have hs1 : w.heap.size + 1 ≤ w1.heap.size := by have := hb1.size; simpa using this
  have HB1 := Lib.hid (below_via hb1 ((Below.refl _ w).alloc (Nat.le_refl _) _))
  have HK := Lib.hid (Blk.after hb1 HK0.out)
  clear hb1 HK0 HM HMT
  obtain ⟨c0, c1, c2, c3, c4, c5⟩ := HK.out.six
  go_wp2_with fail
  refine (HKey.out _).mono ?_
  rintro e w2 ⟨g, cp, hg, rfl, hown, hb⟩
  have HB2 := Lib.hid (below_via hb HB1.out)
  have HK2 := Lib.hid (Blk.after hb HK.out)
  have HO := Lib.hid hown
  have hs2 : w1.heap.size ≤ w2.heap.size := hb.size
  have hlt := hown.lt
  clear hb hown HB1 HK HKey c0 c1 c2 c3 c4 c5
  obtain ⟨c0, c1, c2, c3, c4, c5⟩ := HK2.out.six
  go_wp2_with (first
    | (at_builtin; refine append_bytes rfl (.tmp 10) (.tmp 14) rfl w1.heap.size g cp 9 1 (fixL lo 8 ++ [(hi : Int)]) [kind % 256] (by simp [fixL_length]) rfl rfl (HO.out.alloc _) hg (by (try simp); omega) ⟨w2.heap.size, 0, none⟩ 1 rfl (Row.new w2 .u8 [_] 5 (0, 0) (by simp)) (by omega) ?_; intro g3 cp3 w3 hown3 hg3 hgrow3
       have HO3 := Lib.hid hown3
       have HK3 := Lib.hid (Blk.grew hgrow3 (by omega) (HK2.out.alloc _))
       have HB3 := Lib.hid (Below.grown (HB2.out.alloc HB2.out.size _) hgrow3 (by have := HB2.out.size; (try simp); omega) (by intro r hr; simp at hr; omega))
       have hs3 : w2.heap.size ≤ w3.heap.size := by have := hgrow3.size; (try simp at this); omega
       have hl3 := hown3.lt
       clear hown3 hgrow3 c0 c1 c2 c3 c4 c5
       obtain ⟨c0, c1, c2, c3, c4, c5⟩ := HK3.out.six)
    | (at_builtin; refine append_bytes rfl (.tmp 16) (.tmp 21) rfl w1.heap.size g3 cp3 10 1 ((fixL lo 8 ++ [(hi : Int)]) ++ [kind % 256]) [32 + score] (by simp [fixL_length]) rfl rfl (HO3.out.alloc _) hg3 (by (try simp); omega) ⟨w3.heap.size, 0, none⟩ 1 rfl (Row.new w3 .u8 [_] 5 (0, 0) (by simp)) (by omega) ?_; intro g4 cp4 w4 hown4 hg4 hgrow4
       have HO4 := Lib.hid hown4
       have HK4 := Lib.hid (Blk.grew hgrow4 (by omega) (HK3.out.alloc _))
       have HB4 := Lib.hid (Below.grown (HB3.out.alloc HB3.out.size _) hgrow4 (by have := HB3.out.size; (try simp); omega) (by intro r hr; simp at hr; omega))
       have hs4 : w3.heap.size ≤ w4.heap.size := by have := hgrow4.size; (try simp at this); omega
       have hl4 := hown4.lt
       clear hown4 hgrow4 c0 c1 c2 c3 c4 c5
       obtain ⟨c0, c1, c2, c3, c4, c5⟩ := HK4.out.six))
  refine (HF.out _).mono ?_
  rintro e w5 ⟨g5, cp5, hg5, rfl, hown5, hb5⟩
  have HO5 := Lib.hid (OwnRow.after hb5 HO4.out)
  have HP5 := Lib.hid hown5
  have HK5 := Lib.hid (Blk.after hb5 HK4.out)
  have HB5 := Lib.hid (below_via hb5 HB4.out)
  have hs5 : w4.heap.size ≤ w5.heap.size := hb5.size
  have hl5 := hown5.lt
  clear hb5 hown5 HF c0 c1 c2 c3 c4 c5
  obtain ⟨c0, c1, c2, c3, c4, c5⟩ := HK5.out.six
  go_wp2_with (first
    | (at_builtin; refine append_bytes rfl (.tmp 23) (.tmp 27) rfl w1.heap.size g4 cp4 11 4 (((fixL lo 8 ++ [(hi : Int)]) ++ [kind % 256]) ++ [32 + score]) (fixL wk 4) (by simp [fixL_length]) (fixL_length _ _) rfl HO5.out hg4 (by omega) ⟨g5, 0, none⟩ cp5 rfl HP5.out.row (by omega) ?_; intro g6 cp6 w6 hown6 hg6 hgrow6
       have HO6 := Lib.hid hown6
       have HK6 := Lib.hid (Blk.grew hgrow6 (by omega) HK5.out)
       have HB6 := Lib.hid (Below.grown HB5.out hgrow6 (by omega) (by intro r hr; simp at hr; omega))
       have hs6 : w5.heap.size ≤ w6.heap.size := hgrow6.size
       clear hown6 hgrow6 c0 c1 c2 c3 c4 c5
       obtain ⟨c0, c1, c2, c3, c4, c5⟩ := HK6.out.six)
    | (at_builtin; refine append_bytes rfl (.tmp 29) (.tmp 33) rfl w1.heap.size g6 cp6 15 1 ((((fixL lo 8 ++ [(hi : Int)]) ++ [kind % 256]) ++ [32 + score]) ++ fixL wk 4) [age % 256] (by simp [fixL_length]) rfl rfl (HO6.out.alloc _) hg6 (by (try simp); omega) ⟨w6.heap.size, 0, none⟩ 1 rfl (Row.new w6 .u8 [_] 5 (0, 0) (by simp)) (by omega) ?_; intro g7 cp7 w7 hown7 hg7 hgrow7
       have HO7 := Lib.hid hown7
       have HB7 := Lib.hid (Below.grown (HB6.out.alloc HB6.out.size _) hgrow7 (by have := HB6.out.size; (try simp); omega) (by intro r hr; simp at hr; omega))
       clear hown7 hgrow7 c0 c1 c2 c3 c4 c5))
  go_ret
  have HL : packL hi lo kind score wk age = ((((fixL lo 8 ++ [(hi : Int)]) ++ [kind % 256]) ++ [32 + score]) ++ fixL wk 4) ++ [age % 256] := by
    simp only [packL, IntKind.wrap_u8, List.append_assoc, List.cons_append, List.nil_append]
    rw [show IntKind.i64.wrap (score + 32) = score + 32 from IntWalk.i64_in _ ⟨by omega, by omega⟩, show (score + 32) % 256 = 32 + score by omega]
  exact ⟨g7, cp7, by omega, rfl, by rw [HL]; exact HO7.out, HB7.out⟩
end Go.Proofs.Ytlndlcdamimbdaa
