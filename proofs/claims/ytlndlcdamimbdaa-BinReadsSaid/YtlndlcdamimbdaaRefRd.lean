/- The walks of the reference's reader: take, Fixed, Bytes, Key. -/
import Derived.Test.YtlndlcdamimbdaaRdKey
namespace Go.Proofs.Ytlndlcdamimbdaa
open Go.RowKit

set_option maxHeartbeats 400000 in
theorem refTake_err {T : TypeId} {far : List Nat} {w : World} {b : Nat} {l : List Int} {e : Int} (h : Rd T far w b l e) (n : Int) (he : e ≠ 0) : Calls Try.prog 63 #[.pointer (some ⟨b, 0, none⟩), .int .i64 n] w fun e w' => e = .returned (.tuple #[.slice none 0 0, .bool false]) ∧ w' = w := by
  have hc := h.c1
  have hd : (e != 0) = true := by simpa using he
  clear h he
  go_enter Try.func63, Try.ntmps63
  go_wp2
  go_ret2
  exact ⟨rfl, rfl⟩
set_option maxHeartbeats 400000 in
theorem refTake_end {T : TypeId} {far : List Nat} {w : World} {b : Nat} {l : List Int} (h : Rd T far w b l 0) (n : Nat) (hn : l.length < n) : Calls Try.prog 63 #[.pointer (some ⟨b, 0, none⟩), .int .i64 n] w fun e w' => e = .returned (.tuple #[.slice none 0 0, .bool false]) ∧ Rd T far w' b l 5 ∧ w.grownBy w' (some b) := by
  have H := Lib.hid h
  have hl := h.len
  have hf := h.free 1
  obtain ⟨ad, c, h1, h2, h3, h4, h5, h6, h7⟩ := h
  obtain ⟨c0, c1⟩ := h1.two
  clear h1 h2 h4 h6 h7
  go_enter Try.func63, Try.ntmps63
  go_wp2
  go_ret2
  exact ⟨rfl, H.out.seterr 5, set_grown _ _ _ _⟩
set_option maxHeartbeats 800000 in
theorem refTake_yes' {T : TypeId} {far : List Nat} {w : World} {b : Nat} {l : List Int} (h : Rd T far w b l 0) (n : Nat) (hn : n ≤ l.length) : Calls Try.prog 63 #[.pointer (some ⟨b, 0, none⟩), .int .i64 n] w fun e w' => ∃ g cp, w.heap.size ≤ g ∧ e = .returned (.tuple #[.slice (some ⟨g, 0, none⟩) n cp, .bool true]) ∧ Row w' .u8 (some ⟨g, 0, none⟩) (l.take n) ∧ Rd T far w' b (l.drop n) 0 ∧ w.grownBy w' (some b) ∧ n ≤ cp := by
  have hblt := h.lt
  have hl := h.len
  obtain ⟨ad, c, h1, h2, h3, h4, h5, h6, h7⟩ := h
  have s1 := slice_h ad l.length c n (by omega)
  have s2 := slice_ll ad l.length c n (by omega)
  obtain ⟨c0, c1⟩ := h1.two
  have H1 := Lib.hid h1
  have H2 := Lib.hid h2
  have H6 := Lib.hid h6
  have H7 := Lib.hid h7
  have H4 := Lib.hid h4
  clear h1 h2 h6 h7 h4
  go_enter Try.func63, Try.ntmps63
  go_wp2_with (first
    | (at_builtin; refine append_bytes_any rfl (.tmp 22) (.tmp 28) rfl w.heap.size w.heap.size 0 0 n n [] (l.take n) rfl (by rw [List.length_take]; omega) (by omega) rfl (own_none w) (Nat.le_refl _) (by (try simp)) (some ad) c rfl ((H2.out.take n).alloc _) (fun e => by cases e) (by omega) ?_; intro g cp w1 hown hg hgrow
       have HO := Lib.hid hown
       have HCP : Hid (n ≤ cp) := Lib.hid (by have := hown.cap.1; simp at this; omega)
       have HB1 := Lib.hid (Below.grown ((Below.refl _ w).alloc (Nat.le_refl _) _) hgrow (by simp) (by intro r hr; simp at hr; omega))
       have HB := Lib.hid (H1.out.below HB1.out)
       clear hown hgrow c0 c1
       obtain ⟨c0, c1⟩ := HB.out.two
       have hf0 := Go.Joins.unfrozen_of_block HB.out 0))
  go_ret2
  have hg2 := set_grown w1 b 0 (.slice (some (dropA ad c n)) (l.length - n) (c - n))
  refine ⟨g, cp, hg, rfl, HO.out.row.grew' hg2 (fun _ => by show g ≠ b; omega), ⟨dropA ad c n, c - n, ?_, ((H2.out.below HB1.out).drop n c h3 hn).grew' hg2 (fun h => ?_), by simp; omega, by have := H4.out; omega, by simp; omega, H6.out.drop n, fun h => ?_⟩, (below_grown HB1.out).trans hg2, HCP.out⟩
  · have := Go.Joins.block_setCell HB.out (i := 0) (.slice (some (dropA ad c n)) (l.length - n) (c - n))
    rw [List.length_drop]
    exact this
  · rw [dropA_block]; exact (H7.out (by simp at h; omega)).1
  · rw [dropA_block]; exact H7.out (by simp at h; omega)

theorem refTake_yes {T : TypeId} {far : List Nat} {w : World} {b : Nat} {l : List Int} (h : Rd T far w b l 0) (n : Nat) (hn : n ≤ l.length) : Calls Try.prog 63 #[.pointer (some ⟨b, 0, none⟩), .int .i64 n] w fun e w' => ∃ g cp, w.heap.size ≤ g ∧ e = .returned (.tuple #[.slice (some ⟨g, 0, none⟩) n cp, .bool true]) ∧ Row w' .u8 (some ⟨g, 0, none⟩) (l.take n) ∧ Rd T far w' b (l.drop n) 0 ∧ w.grownBy w' (some b) :=
  (refTake_yes' h n hn).mono fun _ _ ⟨g, cp, h1, h2, h3, h4, h5, _⟩ => ⟨g, cp, h1, h2, h3, h4, h5⟩
set_option maxHeartbeats 800000 in
theorem refFixedR_any {T : TypeId} {far : List Nat} {w : World} {b : Nat} {l : List Int} {e : Int} (h : Rd T far w b l e) (n : Int) : Calls Try.prog 44 #[.pointer (some ⟨b, 0, none⟩), .int .i64 n] w fun e' w' => e' = .returned (.int .u64 (fxV l e n)) ∧ Rd T far w' b (fxS l e n) (fxE l e n) ∧ w.grownBy w' (some b) := by
  have H := Lib.hid h
  have hc := h.c1
  have hf := h.free 1
  clear h
  by_cases he : e = 0
  · subst he
    by_cases hn : 1 ≤ n ∧ n ≤ 8
    · obtain ⟨n, rfl⟩ := Int.eq_ofNat_of_zero_le (show 0 ≤ n by omega)
      obtain ⟨hn1, hn8⟩ := hn
      by_cases hle : n ≤ l.length
      · have HV : Hid (fxV l 0 n = sumL (l.take n) ∧ fxE l 0 n = 0 ∧ fxS l 0 n = l.drop n) := by
          refine ⟨?_, ?_, ?_⟩
          · simp [fxV, hn1, hn8, tkV]; rw [if_neg (by omega)]
          · simp [fxE, hn1, hn8, tkE]; omega
          · simp [fxS, hn1, hn8, tkS]; omega
        have HT := Lib.hid (refTake_yes H.out n hle)
        have HB := Lib.hid H.out.byt
        clear hf
        go_enter Try.func44, Try.ntmps44
        go_wp2_with fail
        refine HT.out.mono ?_
        rintro e w2 ⟨g, cp, hg0, rfl, hrow, h2, hg⟩
        have H2 := Lib.hid h2
        have HG := Lib.hid hg
        have HS : Hid (Calls Try.prog 64 #[.slice (some ⟨g, 0, none⟩) n cp] w2 fun e w' => e = .returned (.int .u64 (sumL (l.take n))) ∧ w' = w2) := by
          have := refSum_any (c := cp) hrow (HB.out.take n) (by simp; omega)
          rw [List.length_take, Nat.min_eq_left hle] at this
          exact this
        clear h2 hg hrow H hc HT
        go_wp2_with fail
        refine HS.out.mono ?_
        rintro e w3 ⟨rfl, rfl⟩
        clear HS
        go_wp2
        go_ret
        exact ⟨by rw [HV.out.1]; rfl, by rw [HV.out.2.1, HV.out.2.2]; exact H2.out, HG.out⟩
      · have HV : Hid (fxV l 0 n = 0 ∧ fxE l 0 n = 5 ∧ fxS l 0 n = l) := by
          refine ⟨?_, ?_, ?_⟩
          · simp [fxV, hn1, hn8, tkV]; rw [if_pos (by omega)]; rfl
          · simp [fxE, hn1, hn8, tkE]; omega
          · simp [fxS, hn1, hn8, tkS]; omega
        have HT := Lib.hid (refTake_end H.out n (by omega))
        clear hf
        go_enter Try.func44, Try.ntmps44
        go_wp2_with fail
        refine HT.out.mono ?_
        rintro e w2 ⟨rfl, h2, hg⟩
        have H2 := Lib.hid h2
        have HG := Lib.hid hg
        clear h2 hg H hc HT
        go_wp2_with fail
        refine (refSum_any (c := 0) (Row.nil w2 _) Byt.nil (by simp)).mono ?_
        rintro e w3 ⟨rfl, rfl⟩
        go_wp2
        go_ret
        exact ⟨by rw [HV.out.1]; rfl, by rw [HV.out.2.1, HV.out.2.2]; exact H2.out, HG.out⟩
    · have HV : Hid (fxV l 0 n = 0 ∧ fxE l 0 n = 2 ∧ fxS l 0 n = l) := by
        refine ⟨?_, ?_, ?_⟩
        · unfold fxV; rw [if_neg hn]
        · unfold fxE; rw [if_neg hn, if_neg (by simp)]
        · unfold fxS; rw [if_neg hn]
      have HT := Lib.hid (refTake_err (H.out.seterr 2) n (by decide))
      by_cases h1 : 1 ≤ n
      · have h8 : ¬ n ≤ 8 := by omega
        have h8' : 8 < n := by omega
        clear hn
        go_enter Try.func44, Try.ntmps44
        go_wp2_with fail
        refine HT.out.mono ?_
        rintro e w2 ⟨rfl, rfl⟩
        clear hc hf HT
        go_wp2_with fail
        refine (refSum_any (c := 0) (Row.nil _ _) Byt.nil (by simp)).mono ?_
        rintro e w3 ⟨rfl, rfl⟩
        go_wp2
        go_ret
        exact ⟨by rw [HV.out.1]; rfl, by rw [HV.out.2.1, HV.out.2.2]; exact H.out.seterr 2, set_grown _ _ _ _⟩
      · have h1' : n < 1 := by omega
        clear hn
        go_enter Try.func44, Try.ntmps44
        go_wp2_with fail
        refine HT.out.mono ?_
        rintro e w2 ⟨rfl, rfl⟩
        clear hc hf HT
        go_wp2_with fail
        refine (refSum_any (c := 0) (Row.nil _ _) Byt.nil (by simp)).mono ?_
        rintro e w3 ⟨rfl, rfl⟩
        go_wp2
        go_ret
        exact ⟨by rw [HV.out.1]; rfl, by rw [HV.out.2.1, HV.out.2.2]; exact H.out.seterr 2, set_grown _ _ _ _⟩
  · have HV : Hid (fxV l e n = 0 ∧ fxE l e n = e ∧ fxS l e n = l) := by
      refine ⟨?_, ?_, ?_⟩
      · unfold fxV tkV; simp [he]; intro _ _; rfl
      · unfold fxE tkE; simp [he]
      · unfold fxS tkS; simp [he]
    have HT := Lib.hid (refTake_err H.out n he)
    have hd : (e == 0) = false := beq_eq_false_iff_ne.2 he
    clear he hf
    go_enter Try.func44, Try.ntmps44
    go_wp2_with fail
    refine HT.out.mono ?_
    rintro e' w2 ⟨rfl, rfl⟩
    clear HT
    go_wp2_with fail
    refine (refSum_any (c := 0) (Row.nil _ _) Byt.nil (by simp)).mono ?_
    rintro e' w3 ⟨rfl, rfl⟩
    go_wp2
    go_ret
    exact ⟨by rw [HV.out.1]; rfl, by rw [HV.out.2.1, HV.out.2.2]; exact H.out, grown_refl _ _⟩

set_option maxHeartbeats 800000 in
theorem refBytesR_any {T : TypeId} {far : List Nat} {w : World} {b : Nat} {l : List Int} {e : Int} (h : Rd T far w b l e) (n : Int) : Calls Try.prog 48 #[.pointer (some ⟨b, 0, none⟩), .int .i64 n] w fun e' w' => ∃ A c, e' = .returned (.slice A (byV l e n).length c) ∧ Row w' .u8 A (byV l e n) ∧ (0 < (byV l e n).length → ∀ ad, A = some ad → w.heap.size ≤ ad.block) ∧ Rd T far w' b (byS l e n) (byE l e n) ∧ w.grownBy w' (some b) := by
  have H := Lib.hid h
  have hc := h.c1
  have hf := h.free 1
  clear h
  by_cases he : e = 0
  · subst he
    by_cases hn : 0 ≤ n
    · obtain ⟨n, rfl⟩ := Int.eq_ofNat_of_zero_le hn
      clear hn
      by_cases hle : n ≤ l.length
      · have HV : Hid (byV l 0 n = l.take n ∧ byE l 0 n = 0 ∧ byS l 0 n = l.drop n) := by
          refine ⟨?_, ?_, ?_⟩
          · simp [byV, tkV]; intro h; omega
          · simp [byE, tkE]; omega
          · simp [byS, tkS]; omega
        have HT := Lib.hid (refTake_yes H.out n hle)
        clear hf
        go_enter Try.func48, Try.ntmps48
        go_wp2_with fail
        refine HT.out.mono ?_
        rintro e w2 ⟨g, cp, hg0, rfl, hrow, h2, hg⟩
        have H2 := Lib.hid h2
        have HG := Lib.hid hg
        have HR := Lib.hid hrow
        clear h2 hg hrow H hc HT
        go_wp2
        go_ret
        exact ⟨some ⟨g, 0, none⟩, cp, by rw [HV.out.1, List.length_take, Nat.min_eq_left hle]; rfl, by rw [HV.out.1]; exact HR.out, fun _ ad e => (by injection e with e; subst e; exact hg0), by rw [HV.out.2.1, HV.out.2.2]; exact H2.out, HG.out⟩
      · have HV : Hid (byV l 0 n = [] ∧ byE l 0 n = 5 ∧ byS l 0 n = l) := by
          refine ⟨?_, ?_, ?_⟩
          · simp [byV, tkV]; intro h; omega
          · simp [byE, tkE]; omega
          · simp [byS, tkS]; omega
        have HT := Lib.hid (refTake_end H.out n (by omega))
        clear hf
        go_enter Try.func48, Try.ntmps48
        go_wp2_with fail
        refine HT.out.mono ?_
        rintro e w2 ⟨rfl, h2, hg⟩
        have H2 := Lib.hid h2
        have HG := Lib.hid hg
        clear h2 hg H hc HT
        go_wp2
        go_ret
        exact ⟨none, 0, by rw [HV.out.1]; rfl, by rw [HV.out.1]; exact Row.nil _ _, fun h => by rw [HV.out.1] at h; simp at h, by rw [HV.out.2.1, HV.out.2.2]; exact H2.out, HG.out⟩
    · have HV : Hid (byV l 0 n = [] ∧ byE l 0 n = 2 ∧ byS l 0 n = l) := by
        refine ⟨?_, ?_, ?_⟩
        · unfold byV; rw [if_neg hn]
        · unfold byE; rw [if_neg hn, if_neg (by simp)]
        · unfold byS; rw [if_neg hn]
      have HT := Lib.hid (refTake_err (H.out.seterr 2) n (by decide))
      have hn' : n < 0 := by omega
      clear hn
      go_enter Try.func48, Try.ntmps48
      go_wp2_with fail
      refine HT.out.mono ?_
      rintro e w2 ⟨rfl, rfl⟩
      clear hc hf HT
      go_wp2
      go_ret
      exact ⟨none, 0, by rw [HV.out.1]; rfl, by rw [HV.out.1]; exact Row.nil _ _, fun h => by rw [HV.out.1] at h; simp at h, by rw [HV.out.2.1, HV.out.2.2]; exact H.out.seterr 2, set_grown _ _ _ _⟩
  · have HV : Hid (byV l e n = [] ∧ byE l e n = e ∧ byS l e n = l) := by
      refine ⟨?_, ?_, ?_⟩
      · unfold byV tkV; simp [he]
      · unfold byE tkE; simp [he]
      · unfold byS tkS; simp [he]
    have HT := Lib.hid (refTake_err H.out n he)
    have hd : (e == 0) = false := beq_eq_false_iff_ne.2 he
    clear he hf
    go_enter Try.func48, Try.ntmps48
    go_wp2_with fail
    refine HT.out.mono ?_
    rintro e' w2 ⟨rfl, rfl⟩
    clear HT
    go_wp2
    go_ret
    exact ⟨none, 0, by rw [HV.out.1]; rfl, by rw [HV.out.1]; exact Row.nil _ _, fun h => by rw [HV.out.1] at h; simp at h, by rw [HV.out.2.1, HV.out.2.2]; exact H.out, grown_refl _ _⟩
end Go.Proofs.Ytlndlcdamimbdaa
