/- The walk of bin's reader: Key. -/
import Derived.Test.YtlndlcdamimbdaaRdMore
namespace Go.Proofs.Ytlndlcdamimbdaa
open Go.RowKit

theorem Rd.less {T : TypeId} {far : List Nat} {x : Nat} {w : World} {b : Nat} {l : List Int} {e : Int} (h : Rd T (x :: far) w b l e) : Rd T far w b l e := by
  obtain ⟨ad, c, h1, h2, h3, h4, h5, h6, h7⟩ := h
  exact ⟨ad, c, h1, h2, h3, h4, h5, h6, fun h => ⟨(h7 h).1, fun y hy => (h7 h).2 y (List.mem_cons_of_mem _ hy)⟩⟩
theorem Rd.set {T : TypeId} {far : List Nat} {x i : Nat} {w : World} {b : Nat} {l : List Int} {e : Int} (h : Rd T (x :: far) w b l e) (hne : b ≠ x) (v : Value) : Rd T (x :: far) (w.setCell ⟨x, i, none⟩ v) b l e :=
  h.grew (set_grown _ _ _ _) (by simp) hne
theorem ret_wide {a b c d : Int} (h1 : a = c) (h2 : b = d) : Ending.returned (.agg #[.int .u64 a, .int .u64 b]) = .returned (.agg #[.int .u64 c, .int .u64 d]) := by rw [h1, h2]
/-- What Key tells. -/
def kyH (l : List Int) (e : Int) : Int := (tkV l e 9).getD 8 0
def kyL (l : List Int) (e : Int) : Nat := sumL ((tkV l e 9).take 8)

set_option maxHeartbeats 800000 in
theorem keyR_any {T : TypeId} {far : List Nat} {w : World} {b : Nat} {l : List Int} {e : Int} (h : Rd T far w b l e) : Calls Try.prog 40 #[.pointer (some ⟨b, 0, none⟩)] w fun e' w' => e' = .returned (.agg #[.int .u64 (kyH l e), .int .u64 (kyL l e)]) ∧ Rd T far w' b (tkS l e 9) (tkE l e 9) ∧ w.grownBy w' (some b) := by
  have H := Lib.hid (Rd.after ((Below.refl _ w).alloc (Nat.le_refl _) (.cells #[.int .u64 0, .int .u64 0] 35)) (h.more w.heap.size (Nat.le_refl _)))
  have hblt := h.lt
  have hk0 := Blk.new w 35 #[.int .u64 0, .int .u64 0]
  have HK := Lib.hid hk0
  clear hk0
  clear h
  by_cases he : e = 0
  · subst he
    by_cases hle : 9 ≤ l.length
    · have HV : Hid (tkV l 0 9 = l.take 9 ∧ tkE l 0 9 = 0 ∧ tkS l 0 9 = l.drop 9) := by
        refine ⟨?_, ?_, ?_⟩
        · simp [tkV]; intro h; omega
        · simp [tkE]; omega
        · simp [tkS]; omega
      go_enter Try.func40, Try.ntmps40
      go_wp2_with fail
      refine (ok_yes H.out).mono ?_
      rintro e w1 ⟨rfl, rfl⟩
      go_wp2_with fail
      refine (take_yes' H.out 9 hle).mono ?_
      rintro e w2 ⟨ad, rfl, hrow, h2, hg, hfar⟩
      have hne : ad.block ≠ w.heap.size := (hfar (by omega)).2 _ (by simp)
      clear hfar
      have H2 := Lib.hid h2
      have HG := Lib.hid hg
      have HR := Lib.hid hrow
      have HK2 := Lib.hid (Blk.grew hg (by omega) HK.out)
      obtain ⟨ad', e, hc⟩ := hrow.2 8 (by simp; omega)
      injection e with e
      subst e
      rw [List.getElem_take] at hc
      replace hc : w2.cell? ⟨ad.block, ad.off + 8, none⟩ = some (.int .u8 l[8]) := by simpa [Addr.add] using hc
      have HB := Lib.hid (H.out.byt.get 8 (by omega))
      have HB9 := Lib.hid H.out.byt
      have hnil := fun w : World => Lib.run_eql_slice_nil (P := Try.prog) w 49 5 (some ad) 9 9 0 0 Try.underlying49
      simp only [Option.isNone_some] at hnil
      clear h2 hg hrow H HK
      obtain ⟨d0, d1⟩ := HK2.out.two
      have f0 := Go.Joins.unfrozen_of_block HK2.out 0
      have f1 := Go.Joins.unfrozen_of_block HK2.out 1
      have hs8 : ∀ w, (Instr.slice 49 (.slice (some ad) 9 9) none (some (.int .i64 8)) none).run Try.prog w = .ok (.slice (some ad) 8 9) w := slice_h ad 9 9 8 (by omega)
      have HS : Hid (∀ W : World, W = w2.drew → Calls Try.prog 60 #[.slice (some ad) 8 9] W fun e w' => e = .returned (.int .u64 (kyL l 0)) ∧ w' = W) := by
        intro W hW
        subst hW
        have h9 : Byt (l.take 9) := HB9.out.take 9
        have := sum_any (c := 9) ((HR.out.take 8).drew) (h9.take 8) (by simp; omega)
        rw [List.take_take, List.length_take, show min (min 8 9) l.length = 8 by omega] at this
        unfold kyL
        rw [HV.out.1, List.take_take]
        exact this
      go_wp2_with fail
      go_region_held3 (fun w' => w'.cell? ⟨ad.block, ad.off + 8, none⟩ = some (.int .u8 l[8])) (first | exact hc | exact cell_set_other hne (cell_set_other hne hc)) (first
        | (go_at_call 60; refine (HS.out _ rfl).mono ?_; rintro e w' ⟨rfl, rfl⟩))
      go_wp2
      refine bodyPost_ret (v := .agg #[.int .u64 (IntKind.u64.wrap l[8]), .int .u64 (kyL l 0)]) (by simp [results, Try.results40, go_sem, d0, d1]) rfl ⟨ret_wide ?_ rfl, ?_, ?_⟩
      · have := HB.out
        rw [IntWalk.u64_in _ ⟨by omega, by omega⟩]
        unfold kyH
        rw [HV.out.1]
        simp [List.getD, List.getElem?_eq_getElem (show 8 < l.length by omega)]
      · rw [HV.out.2.1, HV.out.2.2]
        exact ((H2.out.set (by omega) _).set (by omega) _).less
      · exact grown_drew (grown_own (grown_own ((grown_alloc w _ _).trans HG.out) (Nat.le_refl _) _) (Nat.le_refl _) _)
    · have HV : Hid (tkV l 0 9 = [] ∧ tkE l 0 9 = 5 ∧ tkS l 0 9 = l) := by
        refine ⟨?_, ?_, ?_⟩
        · simp [tkV]; intro h; omega
        · simp [tkE]; omega
        · simp [tkS]; omega
      have hlt : l.length < 9 := by omega
      go_enter Try.func40, Try.ntmps40
      go_wp2_with fail
      refine (ok_yes H.out).mono ?_
      rintro e w1 ⟨rfl, rfl⟩
      go_wp2_with fail
      refine (take_end H.out 9 hlt).mono ?_
      rintro e w2 ⟨rfl, h2, hg⟩
      have H2 := Lib.hid h2
      have HG := Lib.hid hg
      have HK2 := Lib.hid (Blk.grew hg (by omega) HK.out)
      have hnil := fun w : World => Lib.run_eql_slice_nil (P := Try.prog) w 49 5 none 0 0 0 0 Try.underlying49
      simp only [Option.isNone_none] at hnil
      clear h2 hg H HK
      obtain ⟨d0, d1⟩ := HK2.out.two
      have f0 := Go.Joins.unfrozen_of_block HK2.out 0
      have f1 := Go.Joins.unfrozen_of_block HK2.out 1
      go_wp2
      refine bodyPost_ret (v := .agg #[.int .u64 0, .int .u64 0]) (by simp [results, Try.results40, go_sem, d0, d1]) rfl ⟨ret_wide ?_ ?_, ?_, ?_⟩
      · unfold kyH; rw [HV.out.1]; rfl
      · unfold kyL; rw [HV.out.1]; rfl
      · rw [HV.out.2.1, HV.out.2.2]
        exact ((H2.out.set (by omega) _).set (by omega) _).less
      · exact grown_own (grown_own ((grown_alloc w _ _).trans HG.out) (Nat.le_refl _) _) (Nat.le_refl _) _
  · have HV : Hid (tkV l e 9 = [] ∧ tkE l e 9 = e ∧ tkS l e 9 = l) := by
      refine ⟨?_, ?_, ?_⟩
      · simp [tkV, he]
      · simp [tkE, he]
      · simp [tkS, he]
    have HE := Lib.hid he
    clear he
    have HQ : Hid (∀ x, Calls Try.prog 57 #[.pointer (some ⟨b, 0, none⟩), .bool x] (w.alloc (.cells #[.int .u64 0, .int .u64 0] 35)) fun e w' => e = .returned (.bool false) ∧ w' = (w.alloc (.cells #[.int .u64 0, .int .u64 0] 35))) := fun x => ok_err H.out x HE.out
    go_enter Try.func40, Try.ntmps40
    go_wp2_with fail
    refine (HQ.out _).mono ?_
    rintro e w1 ⟨rfl, rfl⟩
    go_wp2
    refine bodyPost_ret (v := .agg #[.int .u64 0, .int .u64 0]) (by simp [results, Try.results40, go_sem]) rfl ⟨ret_wide ?_ ?_, ?_, ?_⟩
    · unfold kyH; rw [HV.out.1]; rfl
    · unfold kyL; rw [HV.out.1]; rfl
    · rw [HV.out.2.1, HV.out.2.2]
      exact H.out.less
    · exact grown_alloc _ _ _
end Go.Proofs.Ytlndlcdamimbdaa
