/- The walk of the reference's reader: Key. -/
import Derived.Test.YtlndlcdamimbdaaRefRd
namespace Go.Proofs.Ytlndlcdamimbdaa
open Go.RowKit

set_option maxHeartbeats 800000 in
theorem refKeyR_any {T : TypeId} {far : List Nat} {w : World} {b : Nat} {l : List Int} {e : Int} (h : Rd T far w b l e) : Calls Try.prog 46 #[.pointer (some ⟨b, 0, none⟩)] w fun e' w' => e' = .returned (.agg #[.int .u64 (kyH l e), .int .u64 (kyL l e)]) ∧ Rd T far w' b (tkS l e 9) (tkE l e 9) ∧ w.grownBy w' (some b) := by
  have H := Lib.hid (Rd.after ((Below.refl _ w).alloc (Nat.le_refl _) (.cells #[.int .u64 0, .int .u64 0] 35)) (h.more w.heap.size (Nat.le_refl _)))
  have hblt := h.lt
  have hk0 := Blk.new w 35 #[.int .u64 0, .int .u64 0]
  have HK := Lib.hid hk0
  clear hk0
  clear h
  by_cases he : e = 0
  · subst he
    by_cases hle : 9 ≤ l.length
    · have HV : Hid (tkV l 0 9 = l.take 9 ∧ tkE l 0 9 = 0 ∧ tkS l 0 9 = l.drop 9) := by
        refine ⟨?_, ?_, ?_⟩
        · simp [tkV]; intro h; omega
        · simp [tkE]; omega
        · simp [tkS]; omega
      go_enter Try.func46, Try.ntmps46
      go_wp2_with fail
      refine (refTake_yes' H.out 9 hle).mono ?_
      rintro e w2 ⟨g, cp, hg0, rfl, hrow, h2, hg, hcp⟩
      have hne : g ≠ w.heap.size := by simp at hg0; omega
      have H2 := Lib.hid h2
      have HG := Lib.hid hg
      have HR := Lib.hid hrow
      have HK2 := Lib.hid (Blk.grew hg (by omega) HK.out)
      obtain ⟨ad', e, hc⟩ := hrow.2 8 (by simp; omega)
      injection e with e
      subst e
      rw [List.getElem_take, add_new] at hc
      have HB := Lib.hid (H.out.byt.get 8 (by omega))
      have HB9 := Lib.hid H.out.byt
      clear h2 hg hrow H HK hg0
      obtain ⟨d0, d1⟩ := HK2.out.two
      have f0 := Go.Joins.unfrozen_of_block HK2.out 0
      have f1 := Go.Joins.unfrozen_of_block HK2.out 1
      have hs8 : ∀ w, (Instr.slice 49 (.slice (some ⟨g, 0, none⟩) 9 cp) none (some (.int .i64 8)) none).run Try.prog w = .ok (.slice (some ⟨g, 0, none⟩) 8 cp) w := slice_h ⟨g, 0, none⟩ 9 cp 8 (by omega)
      have HS : Hid (∀ W : World, W = w2.drew → Calls Try.prog 64 #[.slice (some ⟨g, 0, none⟩) 8 cp] W fun e w' => e = .returned (.int .u64 (kyL l 0)) ∧ w' = W) := by
        intro W hW
        subst hW
        have h9 : Byt (l.take 9) := HB9.out.take 9
        have := refSum_any (c := cp) ((HR.out.take 8).drew) (h9.take 8) (by simp; omega)
        rw [List.take_take, List.length_take, show min (min 8 9) l.length = 8 by omega] at this
        unfold kyL
        rw [HV.out.1, List.take_take]
        exact this
      go_wp2_with fail
      go_region_held3 (fun w' => w'.cell? ⟨g, 8, none⟩ = some (.int .u8 l[8])) (first | exact hc | exact cell_set_other hne (cell_set_other hne hc)) (first
        | (go_at_call 64; refine (HS.out _ rfl).mono ?_; rintro e w' ⟨rfl, rfl⟩))
      go_wp2
      refine bodyPost_ret (v := .agg #[.int .u64 (IntKind.u64.wrap l[8]), .int .u64 (kyL l 0)]) (by simp [results, Try.results46, go_sem, d0, d1]) rfl ⟨ret_wide ?_ rfl, ?_, ?_⟩
      · have := HB.out
        rw [IntWalk.u64_in _ ⟨by omega, by omega⟩]
        unfold kyH
        rw [HV.out.1]
        simp [List.getD, List.getElem?_eq_getElem (show 8 < l.length by omega)]
      · rw [HV.out.2.1, HV.out.2.2]
        exact ((H2.out.set (by omega) _).set (by omega) _).less
      · exact grown_drew (grown_own (grown_own ((grown_alloc w _ _).trans HG.out) (Nat.le_refl _) _) (Nat.le_refl _) _)
    · have HV : Hid (tkV l 0 9 = [] ∧ tkE l 0 9 = 5 ∧ tkS l 0 9 = l) := by
        refine ⟨?_, ?_, ?_⟩
        · simp [tkV]; intro h; omega
        · simp [tkE]; omega
        · simp [tkS]; omega
      have hlt : l.length < 9 := by omega
      go_enter Try.func46, Try.ntmps46
      go_wp2_with fail
      refine (refTake_end H.out 9 hlt).mono ?_
      rintro e w2 ⟨rfl, h2, hg⟩
      have H2 := Lib.hid h2
      have HG := Lib.hid hg
      have HK2 := Lib.hid (Blk.grew hg (by omega) HK.out)
      clear h2 hg H HK
      obtain ⟨d0, d1⟩ := HK2.out.two
      have f0 := Go.Joins.unfrozen_of_block HK2.out 0
      have f1 := Go.Joins.unfrozen_of_block HK2.out 1
      go_wp2
      refine bodyPost_ret (v := .agg #[.int .u64 0, .int .u64 0]) (by simp [results, Try.results46, go_sem, d0, d1]) rfl ⟨ret_wide ?_ ?_, ?_, ?_⟩
      · unfold kyH; rw [HV.out.1]; rfl
      · unfold kyL; rw [HV.out.1]; rfl
      · rw [HV.out.2.1, HV.out.2.2]
        exact ((H2.out.set (by omega) _).set (by omega) _).less
      · exact grown_own (grown_own ((grown_alloc w _ _).trans HG.out) (Nat.le_refl _) _) (Nat.le_refl _) _
  · have HV : Hid (tkV l e 9 = [] ∧ tkE l e 9 = e ∧ tkS l e 9 = l) := by
      refine ⟨?_, ?_, ?_⟩
      · simp [tkV, he]
      · simp [tkE, he]
      · simp [tkS, he]
    have HQ := Lib.hid (refTake_err H.out 9 he)
    clear he
    go_enter Try.func46, Try.ntmps46
    go_wp2_with fail
    refine HQ.out.mono ?_
    rintro e w1 ⟨rfl, rfl⟩
    go_wp2
    refine bodyPost_ret (v := .agg #[.int .u64 0, .int .u64 0]) (by simp [results, Try.results46, go_sem]) rfl ⟨ret_wide ?_ ?_, ?_, ?_⟩
    · unfold kyH; rw [HV.out.1]; rfl
    · unfold kyL; rw [HV.out.1]; rfl
    · rw [HV.out.2.1, HV.out.2.2]
      exact H.out.less
    · exact grown_alloc _ _ _
end Go.Proofs.Ytlndlcdamimbdaa
