/- The walk of the reference's reader: Num (the loops). -/
import Derived.Test.YtlndlcdamimbdaaRefNumR
import Derived.Test.YtlndlcdamimbdaaStrong
namespace Go.Proofs.Ytlndlcdamimbdaa
open Go.RowKit

set_option linter.unusedSimpArgs false in
set_option maxRecDepth 100000 in
set_option maxHeartbeats 1600000 in
theorem refNumR_ok {T : TypeId} {far : List Nat} {w : World} {b : Nat} {l : List Int} (h : Rd T far w b l 0) : Calls Try.prog 45 #[.pointer (some ⟨b, 0, none⟩)] w fun e' w' => e' = .returned (.int .i64 (numV l 0)) ∧ Rd T far w' b (numS l 0) (numE l 0) ∧ w.grownBy w' (some b) := by
  have H := Lib.hid h
  have hll := h.len
  have hf0 := h.free 0
  have hf1 := h.free 1
  obtain ⟨ad, c, h1, h2, h3, h4, h5, h6, h7⟩ := h
  obtain ⟨c0, c1⟩ := h1.two
  have H1 := Lib.hid h1
  have H2 := Lib.hid h2
  have HB := Lib.hid h6
  have H4 := Lib.hid h4
  have H7 := Lib.hid h7
  clear h1 h2 h4 h5 h6 h7
  have HL := Lib.hid (lead_le l)
  go_enter Try.func45, Try.ntmps45
  go_wp2
  go_loop [3] (fun v => ∃ k : Nat, k ≤ lead l ∧ k ≤ 9 ∧ v = .int .i64 ((k : Int) + 1)) (fun v => 10 - (intOf v).toNat)
  case atStart => exact ⟨0, by omega, by omega, rfl⟩
  case round =>
    obtain ⟨k, hk, hk9, rfl⟩ := hrel
    have hkl : k ≤ l.length := Nat.le_trans hk HL.out
    by_cases h9 : k < 9
    · by_cases hlen : k < l.length
      · obtain ⟨ad', e, hc⟩ := H2.out.2 k hlen
        injection e with e
        subst e
        obtain ⟨hb0, hb1⟩ := HB.out.get k hlen
        by_cases hlt : k < lead l
        · have h127 := lead_gt l k hlen hlt
          go_wp2
          go_round
          case rel => exact ⟨k + 1, by omega, by omega, by go_num⟩
          case measure => simp [intOf]; omega
        · obtain rfl : k = lead l := by omega
          have h127 := lead_stop l hlen
          have hn9 : ¬ 9 ≤ lead l := by omega
          have hnl : ¬ lead l = l.length := by omega
          have HBM := Lib.hid (HB.out.take (lead l + 1))
          have HC := Lib.hid (num_canon l HB.out hlen)
          have HV : Hid (valL (l.take (lead l + 1)) < 9223372036854775808) := by
            have := valL_lt (l.take (lead l + 1))
            have h2 : 128 ^ (l.take (lead l + 1)).length ≤ 128 ^ 9 := Nat.pow_le_pow_right (by omega) (by simp; omega)
            show _ < _
            omega
          have HLV : Hid (numV l 0 = (if 0 < lead l ∧ l.getD (lead l) 0 = 0 then 0 else (valL (l.take (lead l + 1)) : Int)) ∧ numE l 0 = (if 0 < lead l ∧ l.getD (lead l) 0 = 0 then 4 else 0) ∧ numS l 0 = (if 0 < lead l ∧ l.getD (lead l) 0 = 0 then l else l.drop (lead l + 1))) := by
            refine ⟨?_, ?_, ?_⟩
            · unfold numV; rw [if_neg (by simp), if_neg hn9, if_neg hnl]
            · unfold numE; rw [if_neg (by simp), if_neg hn9, if_neg hnl]
            · unfold numS; rw [if_neg (by simp), if_neg hn9, if_neg hnl]
          have HGD : Hid (l.getD (lead l) 0 = l[lead l]) := by show _ = _; rw [List.getD, List.getElem?_eq_getElem hlen]; rfl
          clear hlt hnl hn9
          go_wp2
          clear hc hb0 hb1
          go_loop [4, 5] (fun v i => ∃ j x : Nat, j ≤ lead l + 1 ∧ i = .int .i64 ((j : Int) - 1) ∧ v = .int .i64 x ∧ Hid (x = valL ((l.take (lead l + 1)).drop j))) (fun _ i => (intOf i + 1).toNat)
          case atStart =>
            refine ⟨lead l + 1, 0, by omega, by go_num, rfl, Lib.hid ?_⟩
            rw [List.drop_of_length_le (by rw [List.length_take]; omega)]; rfl
          case round =>
            obtain ⟨j, x, hj, rfl, rfl, HX⟩ := hrel
            by_cases hj1 : 1 ≤ j
            · obtain ⟨i, rfl⟩ : ∃ i, j = i + 1 := ⟨j - 1, by omega⟩
              have hil : i < l.length := by omega
              obtain ⟨ad', e, hc⟩ := H2.out.2 i hil
              injection e with e
              subst e
              obtain ⟨hb0, hb1⟩ := HB.out.get i hil
              have hs : x ≤ 72057594037927935 := by rw [HX.out]; exact val_small (l.take (lead l + 1)) i (by rw [List.length_take]; omega)
              have HE : Hid (valL ((l.take (lead l + 1)).drop i) = 128 * valL ((l.take (lead l + 1)).drop (i + 1)) + l[i].toNat % 128) := by
                have := val_drop (l.take (lead l + 1)) i (by rw [List.length_take]; omega)
                rw [List.getElem_take] at this
                exact this
              go_wp2
              go_round
              case rel => exact ⟨i, 128 * x + l[i].toNat % 128, by omega, rfl, by go_num, Lib.hid (by rw [HE.out, HX.out])⟩
              case measure => simp [intOf]
            · obtain rfl : j = 0 := by omega
              have HX' : Hid (x = valL (l.take (lead l + 1))) := HX.out
              have HN : Hid (∀ w, Calls Try.prog 35 #[.int .i64 x] w fun e w' => ∃ g cp, w.heap.size ≤ g ∧ e = .returned (.slice (some ⟨g, 0, none⟩) (numL x).length cp) ∧ OwnRow w' 5 .u8 g cp (numL x) ∧ Below w.heap.size w w') := fun w => refNum_yes x w (by rw [HX'.out]; exact HV.out)
              clear hj1 hj HX
              have hs1 : ∀ w, (Instr.slice 49 (.slice (some ad) l.length c) none (some (.int .i64 ((lead l : Int) + 1))) none).run Try.prog w = .ok (.slice (some ad) (lead l + 1) c) w := slice_h ad l.length c (lead l + 1) (by omega)
              have hs2 : ∀ w, (Instr.slice 49 (.slice (some ad) l.length c) (some (.int .i64 ((lead l : Int) + 1))) none none).run Try.prog w = .ok (.slice (some (dropA ad c (lead l + 1))) (l.length - (lead l + 1)) (c - (lead l + 1))) w := slice_ll ad l.length c (lead l + 1) (by omega)
              have hcB : ∀ w', (w'.cell? ⟨b, 0, none⟩ = some (.slice (some ad) l.length c) ∧ Row w' .u8 (some ad) l) → Sem.run Try.prog (convert 49 9 (.slice (some ad) (lead l + 1) c)) w' = .ok (.string (strOfNums (l.take (lead l + 1)))) w' := fun w' h => by
                have := (h.2.take (lead l + 1)).string (c := c) Try.underlying49 Try.underlying5 Try.underlying9
                rw [List.length_take, Nat.min_eq_left (by omega)] at this
                exact this
              have hS : w.drew.cell? ⟨b, 0, none⟩ = some (.slice (some ad) l.length c) ∧ Row w.drew .u8 (some ad) l := ⟨c0, H2.out⟩
              by_cases hcan : 0 < lead l ∧ l[lead l] = 0
              · have hcmp : ((strOfNums (numL x)).toList == (strOfNums (l.take (lead l + 1))).toList) = false := by
                  rw [HX'.out]
                  exact str_ne (byt_numL _) HBM.out (fun e => HC.out.1 e hcan)
                have HLV2 : Hid (numV l 0 = 0 ∧ numE l 0 = 4 ∧ numS l 0 = l) := by
                  have := HLV.out
                  rw [HGD.out, if_pos hcan, if_pos hcan, if_pos hcan] at this
                  exact this
                clear hcan HLV
                go_wp2_with fail
                refine wp_region_held_drew (S := (fun w' => w'.cell? ⟨b, 0, none⟩ = some (.slice (some ad) l.length c) ∧ Row w' .u8 (some ad) l)) (by kernel_rfl) (hS) (fun hHeld => ?_)
                refine wpAnyH_take (i := 0) (v := ?_) rfl (by kernel_rfl) (by kernel_rfl) (by kernel_rfl) (fun _ _ _ h => h) (Or.inl ⟨by rfl, ?_⟩) (by assumption) ?_
                rotate_left
                · intro w hSw
                  (try dsimp only at hSw)
                  (go_simp <;> (try with_reducible rfl))
                try simp only [Act.put, List.getElem_toArray, List.getElem_cons_zero, List.getElem_cons_succ, List.setIfInBounds_toArray, List.set_cons_zero, List.set_cons_succ]
                refine wpAnyH_take (i := 3) (v := ?_) rfl (by kernel_rfl) (by kernel_rfl) (by kernel_rfl) (fun _ _ _ h => h) (Or.inl ⟨by rfl, ?_⟩) (by assumption) ?_
                rotate_left
                · intro w hSw
                  (try dsimp only at hSw)
                  (go_simp <;> (try with_reducible rfl))
                try simp only [Act.put, List.getElem_toArray, List.getElem_cons_zero, List.getElem_cons_succ, List.setIfInBounds_toArray, List.set_cons_zero, List.set_cons_succ]
                refine wpAnyH_take (i := 4) (v := ?_) rfl (by kernel_rfl) (by kernel_rfl) (by kernel_rfl) (fun _ _ _ h => h) (Or.inl ⟨by rfl, ?_⟩) (by assumption) ?_
                rotate_left
                · intro w hSw
                  (try dsimp only at hSw)
                  (go_simp <;> (try with_reducible rfl))
                try simp only [Act.put, List.getElem_toArray, List.getElem_cons_zero, List.getElem_cons_succ, List.setIfInBounds_toArray, List.set_cons_zero, List.set_cons_succ]
                refine wpAnyH_take (i := 5) (v := ?_) rfl (by kernel_rfl) (by kernel_rfl) (by kernel_rfl) (fun _ _ _ h => h) (Or.inl ⟨by rfl, ?_⟩) (by assumption) ?_
                rotate_left
                · intro w hSw
                  (try dsimp only at hSw)
                  (go_simp <;> (try with_reducible rfl))
                try simp only [Act.put, List.getElem_toArray, List.getElem_cons_zero, List.getElem_cons_succ, List.setIfInBounds_toArray, List.set_cons_zero, List.set_cons_succ]
                refine wpAnyH_take (i := 6) (v := ?_) rfl (by kernel_rfl) (by kernel_rfl) (by kernel_rfl) (fun _ _ _ h => h) (Or.inl ⟨by rfl, ?_⟩) (by assumption) ?_
                rotate_left
                · intro w hSw
                  (try dsimp only at hSw)
                  (go_simp <;> (try with_reducible rfl))
                try simp only [Act.put, List.getElem_toArray, List.getElem_cons_zero, List.getElem_cons_succ, List.setIfInBounds_toArray, List.set_cons_zero, List.set_cons_succ]
                refine wpAnyH_take (i := 7) (v := ?_) rfl (by kernel_rfl) (by kernel_rfl) (by kernel_rfl) (fun _ _ _ h => h) (Or.inl ⟨by rfl, ?_⟩) (by assumption) ?_
                rotate_left
                · intro w hSw
                  (try dsimp only at hSw)
                  (go_simp <;> (try with_reducible rfl))
                try simp only [Act.put, List.getElem_toArray, List.getElem_cons_zero, List.getElem_cons_succ, List.setIfInBounds_toArray, List.set_cons_zero, List.set_cons_succ]
                refine wpAnyH_take (i := 8) (v := ?_) rfl (by kernel_rfl) (by kernel_rfl) (by kernel_rfl) (fun _ _ _ h => h) (Or.inl ⟨by rfl, ?_⟩) (by assumption) ?_
                rotate_left
                · intro w hSw
                  (try dsimp only at hSw)
                  (go_simp <;> (try with_reducible rfl))
                try simp only [Act.put, List.getElem_toArray, List.getElem_cons_zero, List.getElem_cons_succ, List.setIfInBounds_toArray, List.set_cons_zero, List.set_cons_succ]
                refine wpAnyH_take (i := 9) (v := ?_) rfl (by kernel_rfl) (by kernel_rfl) (by kernel_rfl) (fun _ _ _ h => h) (Or.inl ⟨by rfl, ?_⟩) (by assumption) ?_
                rotate_left
                · intro w hSw
                  (try dsimp only at hSw)
                  (go_simp <;> (try with_reducible rfl))
                try simp only [Act.put, List.getElem_toArray, List.getElem_cons_zero, List.getElem_cons_succ, List.setIfInBounds_toArray, List.set_cons_zero, List.set_cons_succ]
                refine wpAnyH_ready (rs := [1]) (by kernel_rfl) (by simp) ?_
                refine AllReadyH.cons rfl (fun K hK => ?_) AllReadyH.nil
                go_simp
                refine (HN.out _).mono ?_
                rintro e w' ⟨g, cp, hg, rfl, hown, hb⟩
                have hst : w'.cell? ⟨b, 0, none⟩ = some (.slice (some ad) l.length c) ∧ Row w' .u8 (some ad) l := ⟨cell_below hb hS.1, Row.after hb hS.2⟩
                try (go_wp2_with fail)
                refine hK.out _ _ (hst) (fun hHeld => ?_)
                clear hK K
                try simp only [Act.put, List.getElem_toArray, List.getElem_cons_zero, List.getElem_cons_succ, List.setIfInBounds_toArray, List.set_cons_zero, List.set_cons_succ]
                refine wpAnyH_strong (S' := (fun w' => (w'.cell? ⟨b, 0, none⟩ = some (.slice (some ad) l.length c) ∧ Row w' .u8 (some ad) l) ∧ Row w' .u8 (some ⟨g, 0, none⟩) (numL x))) (fun _ h => h.1) _ _ _ _ ?_
                have hHeld := (And.intro hst hown.row)
                have hcA : ∀ w', ((w'.cell? ⟨b, 0, none⟩ = some (.slice (some ad) l.length c) ∧ Row w' .u8 (some ad) l) ∧ Row w' .u8 (some ⟨g, 0, none⟩) (numL x)) → Sem.run Try.prog (convert 49 9 (.slice (some ⟨g, 0, none⟩) (numL x).length cp)) w' = .ok (.string (strOfNums (numL x))) w' := fun w' h => h.2.string (c := cp) Try.underlying49 Try.underlying5 Try.underlying9
                refine wpAnyH_take (i := 2) (v := ?_) rfl (by kernel_rfl) (by kernel_rfl) (by kernel_rfl) (fun _ _ _ h => h) (Or.inl ⟨by rfl, ?_⟩) (by assumption) ?_
                rotate_left
                · intro w hSw
                  (try dsimp only at hSw)
                  (go_simp <;> (try with_reducible rfl))
                try simp only [Act.put, List.getElem_toArray, List.getElem_cons_zero, List.getElem_cons_succ, List.setIfInBounds_toArray, List.set_cons_zero, List.set_cons_succ]
                refine wpAnyH_take (i := 10) (v := ?_) rfl (by kernel_rfl) (by kernel_rfl) (by kernel_rfl) (fun _ _ _ h => h) (Or.inl ⟨by rfl, ?_⟩) (by assumption) ?_
                rotate_left
                · intro w hSw
                  (try dsimp only at hSw)
                  (go_simp <;> (try with_reducible rfl))
                try simp only [Act.put, List.getElem_toArray, List.getElem_cons_zero, List.getElem_cons_succ, List.setIfInBounds_toArray, List.set_cons_zero, List.set_cons_succ]
                refine wpAnyH_done (by kernel_rfl) ?_ _
                have HRD := Lib.hid (Rd.after hb (show Rd T far w.drew b l 0 from H.out))
                have HGR : Hid (w.grownBy w' (some b)) := Lib.hid (below_grown (below_via hb (Below.refl _ w).drew))
                have hfr := HRD.out.free 1
                have hcc := HRD.out.c1
                clear hown hb hst hcA hcB hS
                go_wp2
                go_ret
                exact ⟨by rw [HLV2.out.1]; rfl, by rw [HLV2.out.2.1, HLV2.out.2.2]; exact HRD.out.seterr 4, HGR.out.trans (set_grown _ _ _ _)⟩
              · have hcmp : ((strOfNums (numL x)).toList == (strOfNums (l.take (lead l + 1))).toList) = true := by
                  rw [HX'.out]
                  exact str_eq (HC.out.2 hcan)
                have HLV2 : Hid (numV l 0 = valL (l.take (lead l + 1)) ∧ numE l 0 = 0 ∧ numS l 0 = l.drop (lead l + 1)) := by
                  have := HLV.out
                  rw [HGD.out, if_neg hcan, if_neg hcan, if_neg hcan] at this
                  exact this
                clear hcan HLV
                go_wp2_with fail
                refine wp_region_held_drew (S := (fun w' => w'.cell? ⟨b, 0, none⟩ = some (.slice (some ad) l.length c) ∧ Row w' .u8 (some ad) l)) (by kernel_rfl) (hS) (fun hHeld => ?_)
                refine wpAnyH_take (i := 0) (v := ?_) rfl (by kernel_rfl) (by kernel_rfl) (by kernel_rfl) (fun _ _ _ h => h) (Or.inl ⟨by rfl, ?_⟩) (by assumption) ?_
                rotate_left
                · intro w hSw
                  (try dsimp only at hSw)
                  (go_simp <;> (try with_reducible rfl))
                try simp only [Act.put, List.getElem_toArray, List.getElem_cons_zero, List.getElem_cons_succ, List.setIfInBounds_toArray, List.set_cons_zero, List.set_cons_succ]
                refine wpAnyH_take (i := 3) (v := ?_) rfl (by kernel_rfl) (by kernel_rfl) (by kernel_rfl) (fun _ _ _ h => h) (Or.inl ⟨by rfl, ?_⟩) (by assumption) ?_
                rotate_left
                · intro w hSw
                  (try dsimp only at hSw)
                  (go_simp <;> (try with_reducible rfl))
                try simp only [Act.put, List.getElem_toArray, List.getElem_cons_zero, List.getElem_cons_succ, List.setIfInBounds_toArray, List.set_cons_zero, List.set_cons_succ]
                refine wpAnyH_take (i := 4) (v := ?_) rfl (by kernel_rfl) (by kernel_rfl) (by kernel_rfl) (fun _ _ _ h => h) (Or.inl ⟨by rfl, ?_⟩) (by assumption) ?_
                rotate_left
                · intro w hSw
                  (try dsimp only at hSw)
                  (go_simp <;> (try with_reducible rfl))
                try simp only [Act.put, List.getElem_toArray, List.getElem_cons_zero, List.getElem_cons_succ, List.setIfInBounds_toArray, List.set_cons_zero, List.set_cons_succ]
                refine wpAnyH_take (i := 5) (v := ?_) rfl (by kernel_rfl) (by kernel_rfl) (by kernel_rfl) (fun _ _ _ h => h) (Or.inl ⟨by rfl, ?_⟩) (by assumption) ?_
                rotate_left
                · intro w hSw
                  (try dsimp only at hSw)
                  (go_simp <;> (try with_reducible rfl))
                try simp only [Act.put, List.getElem_toArray, List.getElem_cons_zero, List.getElem_cons_succ, List.setIfInBounds_toArray, List.set_cons_zero, List.set_cons_succ]
                refine wpAnyH_take (i := 6) (v := ?_) rfl (by kernel_rfl) (by kernel_rfl) (by kernel_rfl) (fun _ _ _ h => h) (Or.inl ⟨by rfl, ?_⟩) (by assumption) ?_
                rotate_left
                · intro w hSw
                  (try dsimp only at hSw)
                  (go_simp <;> (try with_reducible rfl))
                try simp only [Act.put, List.getElem_toArray, List.getElem_cons_zero, List.getElem_cons_succ, List.setIfInBounds_toArray, List.set_cons_zero, List.set_cons_succ]
                refine wpAnyH_take (i := 7) (v := ?_) rfl (by kernel_rfl) (by kernel_rfl) (by kernel_rfl) (fun _ _ _ h => h) (Or.inl ⟨by rfl, ?_⟩) (by assumption) ?_
                rotate_left
                · intro w hSw
                  (try dsimp only at hSw)
                  (go_simp <;> (try with_reducible rfl))
                try simp only [Act.put, List.getElem_toArray, List.getElem_cons_zero, List.getElem_cons_succ, List.setIfInBounds_toArray, List.set_cons_zero, List.set_cons_succ]
                refine wpAnyH_take (i := 8) (v := ?_) rfl (by kernel_rfl) (by kernel_rfl) (by kernel_rfl) (fun _ _ _ h => h) (Or.inl ⟨by rfl, ?_⟩) (by assumption) ?_
                rotate_left
                · intro w hSw
                  (try dsimp only at hSw)
                  (go_simp <;> (try with_reducible rfl))
                try simp only [Act.put, List.getElem_toArray, List.getElem_cons_zero, List.getElem_cons_succ, List.setIfInBounds_toArray, List.set_cons_zero, List.set_cons_succ]
                refine wpAnyH_take (i := 9) (v := ?_) rfl (by kernel_rfl) (by kernel_rfl) (by kernel_rfl) (fun _ _ _ h => h) (Or.inl ⟨by rfl, ?_⟩) (by assumption) ?_
                rotate_left
                · intro w hSw
                  (try dsimp only at hSw)
                  (go_simp <;> (try with_reducible rfl))
                try simp only [Act.put, List.getElem_toArray, List.getElem_cons_zero, List.getElem_cons_succ, List.setIfInBounds_toArray, List.set_cons_zero, List.set_cons_succ]
                refine wpAnyH_ready (rs := [1]) (by kernel_rfl) (by simp) ?_
                refine AllReadyH.cons rfl (fun K hK => ?_) AllReadyH.nil
                go_simp
                refine (HN.out _).mono ?_
                rintro e w' ⟨g, cp, hg, rfl, hown, hb⟩
                have hst : w'.cell? ⟨b, 0, none⟩ = some (.slice (some ad) l.length c) ∧ Row w' .u8 (some ad) l := ⟨cell_below hb hS.1, Row.after hb hS.2⟩
                try (go_wp2_with fail)
                refine hK.out _ _ (hst) (fun hHeld => ?_)
                clear hK K
                try simp only [Act.put, List.getElem_toArray, List.getElem_cons_zero, List.getElem_cons_succ, List.setIfInBounds_toArray, List.set_cons_zero, List.set_cons_succ]
                refine wpAnyH_strong (S' := (fun w' => (w'.cell? ⟨b, 0, none⟩ = some (.slice (some ad) l.length c) ∧ Row w' .u8 (some ad) l) ∧ Row w' .u8 (some ⟨g, 0, none⟩) (numL x))) (fun _ h => h.1) _ _ _ _ ?_
                have hHeld := (And.intro hst hown.row)
                have hcA : ∀ w', ((w'.cell? ⟨b, 0, none⟩ = some (.slice (some ad) l.length c) ∧ Row w' .u8 (some ad) l) ∧ Row w' .u8 (some ⟨g, 0, none⟩) (numL x)) → Sem.run Try.prog (convert 49 9 (.slice (some ⟨g, 0, none⟩) (numL x).length cp)) w' = .ok (.string (strOfNums (numL x))) w' := fun w' h => h.2.string (c := cp) Try.underlying49 Try.underlying5 Try.underlying9
                refine wpAnyH_take (i := 2) (v := ?_) rfl (by kernel_rfl) (by kernel_rfl) (by kernel_rfl) (fun _ _ _ h => h) (Or.inl ⟨by rfl, ?_⟩) (by assumption) ?_
                rotate_left
                · intro w hSw
                  (try dsimp only at hSw)
                  (go_simp <;> (try with_reducible rfl))
                try simp only [Act.put, List.getElem_toArray, List.getElem_cons_zero, List.getElem_cons_succ, List.setIfInBounds_toArray, List.set_cons_zero, List.set_cons_succ]
                refine wpAnyH_take (i := 10) (v := ?_) rfl (by kernel_rfl) (by kernel_rfl) (by kernel_rfl) (fun _ _ _ h => h) (Or.inl ⟨by rfl, ?_⟩) (by assumption) ?_
                rotate_left
                · intro w hSw
                  (try dsimp only at hSw)
                  (go_simp <;> (try with_reducible rfl))
                try simp only [Act.put, List.getElem_toArray, List.getElem_cons_zero, List.getElem_cons_succ, List.setIfInBounds_toArray, List.set_cons_zero, List.set_cons_succ]
                refine wpAnyH_done (by kernel_rfl) ?_ _
                have HK := Lib.hid (Blk.after hb (show Blk w.drew b T _ from H1.out))
                have HRW := Lib.hid (hst.2)
                have HGR : Hid (w.grownBy w' (some b)) := Lib.hid (below_grown (below_via hb (Below.refl _ w).drew))
                obtain ⟨d0, d1⟩ := HK.out.two
                have hfr := Go.Joins.unfrozen_of_block HK.out 0
                clear hown hb hst hcA hcB hS
                go_wp2
                go_ret
                have hg2 := set_grown w' b 0 (.slice (some (dropA ad c (lead l + 1))) (l.length - (lead l + 1)) (c - (lead l + 1)))
                refine ⟨by rw [HLV2.out.1, ← HX'.out]; rfl, ?_, HGR.out.trans hg2⟩
                rw [HLV2.out.2.1, HLV2.out.2.2]
                refine ⟨dropA ad c (lead l + 1), c - (lead l + 1), ?_, (HRW.out.drop (lead l + 1) c h3 (by omega)).grew' hg2 (fun h => ?_), by simp; omega, by have := H4.out; omega, by simp; omega, HB.out.drop _, fun h => ?_⟩
                · have := Go.Joins.block_setCell HK.out (i := 0) (.slice (some (dropA ad c (lead l + 1))) (l.length - (lead l + 1)) (c - (lead l + 1)))
                  rw [List.length_drop]
                  exact this
                · rw [dropA_block]; exact (H7.out (by simp at h; omega)).1
                · rw [dropA_block]; exact H7.out (by simp at h; omega)
      · have hnl : lead l = l.length := by have := HL.out; omega
        have HV : Hid (numV l 0 = 0 ∧ numE l 0 = 5 ∧ numS l 0 = l) := by
          have hn9 : ¬ 9 ≤ lead l := by omega
          refine ⟨?_, ?_, ?_⟩
          · unfold numV; rw [if_neg (by simp), if_neg hn9, if_pos hnl]
          · unfold numE; rw [if_neg (by simp), if_neg hn9, if_pos hnl]
          · unfold numS; rw [if_neg (by simp), if_neg hn9, if_pos hnl]
        clear hnl
        go_wp2
        go_ret
        exact ⟨by rw [HV.out.1]; rfl, by rw [HV.out.2.1, HV.out.2.2]; exact H.out.seterr 5, set_grown _ _ _ _⟩
    · obtain rfl : k = 9 := by omega
      have HV : Hid (numV l 0 = 0 ∧ numE l 0 = 4 ∧ numS l 0 = l) := by
        refine ⟨?_, ?_, ?_⟩
        · unfold numV; rw [if_neg (by simp), if_pos hk]
        · unfold numE; rw [if_neg (by simp), if_pos hk]
        · unfold numS; rw [if_neg (by simp), if_pos hk]
      go_wp2
      go_ret
      exact ⟨by rw [HV.out.1]; rfl, by rw [HV.out.2.1, HV.out.2.2]; exact H.out.seterr 4, set_grown _ _ _ _⟩
set_option maxHeartbeats 400000 in
theorem refNumR_err {T : TypeId} {far : List Nat} {w : World} {b : Nat} {l : List Int} {e : Int} (h : Rd T far w b l e) (he : e ≠ 0) : Calls Try.prog 45 #[.pointer (some ⟨b, 0, none⟩)] w fun e' w' => e' = .returned (.int .i64 0) ∧ w' = w := by
  have hc := h.c1
  have hd : (e != 0) = true := by simpa using he
  clear h he
  go_enter Try.func45, Try.ntmps45
  go_wp2
  go_ret
  exact ⟨rfl, rfl⟩
theorem refNumR_any {T : TypeId} {far : List Nat} {w : World} {b : Nat} {l : List Int} {e : Int} (h : Rd T far w b l e) : Calls Try.prog 45 #[.pointer (some ⟨b, 0, none⟩)] w fun e' w' => e' = .returned (.int .i64 (numV l e)) ∧ Rd T far w' b (numS l e) (numE l e) ∧ w.grownBy w' (some b) := by
  by_cases he : e = 0
  · subst he; exact refNumR_ok h
  · refine (refNumR_err h he).mono fun e' w' ⟨h1, h2⟩ => ?_
    subst h2
    refine ⟨?_, ?_, grown_refl _ _⟩
    · unfold numV; rw [if_pos he]; exact h1
    · unfold numS numE; rw [if_pos he, if_pos he]; exact h
end Go.Proofs.Ytlndlcdamimbdaa
