/- The walk of the law BinBack: plain words, and the loop that writes. -/
import Derived.Test.YtlndlcdamimbdaaGives
import Derived.Test.YtlndlcdamimbdaaBinLive
import Derived.Deep.RegionHeld3
namespace Go.Proofs.Ytlndlcdamimbdaa
open Go.RowKit

/-- The bytes of one number of the list, of the word, and of the other number. -/
def oneL (hi lo n : Nat) (z : Int) : List Int := numW z ++ ((fixL lo 8 ++ [(hi : Int)]) ++ fixL n 8)
def backL (hi lo n : Nat) (l : List Int) : List Int := l.flatMap (oneL hi lo n)
theorem backL_snoc (hi lo n : Nat) (l : List Int) (k : Nat) (h : k < l.length) : backL hi lo n (l.take (k + 1)) = ((backL hi lo n (l.take k) ++ numW l[k]) ++ (fixL lo 8 ++ [(hi : Int)])) ++ fixL n 8 := by
  unfold backL
  rw [List.take_succ_eq_append_getElem h, List.flatMap_append]
  simp [oneL]
theorem backL_drop (hi lo n : Nat) (l : List Int) (k : Nat) (h : k < l.length) : backL hi lo n (l.drop k) = oneL hi lo n l[k] ++ backL hi lo n (l.drop (k + 1)) := by
  unfold backL
  rw [List.drop_eq_getElem_cons h, List.flatMap_cons]
theorem numW_len (z : Int) (h : z < 9223372036854775808) : (numW z).length ≤ 9 := by
  unfold numW
  split
  · exact numL_len 8 _ (by omega)
  · simp
theorem byt_numW (z : Int) : Byt (numW z) := by
  unfold numW
  split
  · exact byt_numL _
  · exact Byt.nil
theorem byt_oneL (hi lo n : Nat) (z : Int) (hhi : hi < 256) : Byt (oneL hi lo n z) := by
  refine (byt_numW z).append (((byt_fixL _ _).append ?_).append (byt_fixL _ _))
  intro y hy
  simp only [List.mem_singleton] at hy
  subst hy
  omega
theorem byt_backL (hi lo n : Nat) (l : List Int) (hhi : hi < 256) : Byt (backL hi lo n l) := by
  intro x hx
  obtain ⟨z, _, hz⟩ := List.mem_flatMap.1 hx
  exact byt_oneL hi lo n z hhi x hz
theorem num_gives (z : Int) (w : World) (hz : z < 9223372036854775808) : Calls Try.prog 34 #[.int .i64 z] w fun e w' => ∃ A c, e = .returned (.slice A (numW z).length c) ∧ Row w' .u8 A (numW z) ∧ (A = none → c = 0) ∧ Below w.heap.size w w' := by
  by_cases h : 0 ≤ z
  · obtain ⟨n, rfl⟩ := Int.eq_ofNat_of_zero_le h
    have hL : numW n = numL n := by unfold numW; rw [if_pos h]; rfl
    rw [hL]
    exact (num_yes n w (by omega)).mono fun e w' ⟨g, cp, _, he, ho, hb⟩ => ⟨_, _, he, ho.row, (fun e => by cases e), hb⟩
  · have hL : numW z = [] := by unfold numW; rw [if_neg h]
    rw [hL]
    exact (num_neg z w (by omega)).mono fun e w' ⟨he, hw⟩ => ⟨none, 0, he, Row.nil _ _, fun _ => rfl, by rw [hw]; exact Below.refl _ _⟩

/-- What was written is read. -/
theorem back_num (z : Nat) (t : List Int) (hz : z < 9223372036854775808) {far : List Nat} {w : World} {b : Nat} (h : Rd 80 far w b (numL z ++ t) 0) : Calls Try.prog 39 #[.pointer (some ⟨b, 0, none⟩)] w fun e' w' => e' = .returned (.int .i64 z) ∧ Rd 80 far w' b t 0 ∧ w.grownBy w' (some b) := by
  obtain ⟨e1, e2, e3⟩ := num_back z t (by omega)
  have := num_all h
  rw [e1, e2, e3] at this
  exact this
theorem back_key (hi lo : Nat) (t : List Int) (hlo : lo < 18446744073709551616) {far : List Nat} {w : World} {b : Nat} (h : Rd 80 far w b ((fixL lo 8 ++ [(hi : Int)]) ++ t) 0) : Calls Try.prog 40 #[.pointer (some ⟨b, 0, none⟩)] w fun e' w' => e' = .returned (.agg #[.int .u64 hi, .int .u64 lo]) ∧ Rd 80 far w' b t 0 ∧ w.grownBy w' (some b) := by
  have hl : (fixL lo 8 ++ [(hi : Int)]).length = 9 := by simp [fixL_length]
  have hll : ¬ ((fixL lo 8 ++ [(hi : Int)]) ++ t).length < 9 := by rw [List.length_append, hl]; omega
  have e1 : tkV ((fixL lo 8 ++ [(hi : Int)]) ++ t) 0 9 = fixL lo 8 ++ [(hi : Int)] := by
    unfold tkV; rw [if_neg (by simp), if_neg hll]; exact List.take_left' hl
  have e2 : tkS ((fixL lo 8 ++ [(hi : Int)]) ++ t) 0 9 = t := by
    unfold tkS; rw [if_neg (by simp), if_neg hll]; exact List.drop_left' hl
  have e3 : tkE ((fixL lo 8 ++ [(hi : Int)]) ++ t) 0 9 = 0 := by
    unfold tkE; rw [if_neg (by simp), if_neg hll]
  have e4 : kyH ((fixL lo 8 ++ [(hi : Int)]) ++ t) 0 = hi := by
    unfold kyH; rw [e1, List.getD_eq_getElem?_getD, List.getElem?_append_right (by rw [fixL_length]; omega)]; simp [fixL_length]
  have e5 : kyL ((fixL lo 8 ++ [(hi : Int)]) ++ t) 0 = lo := by
    unfold kyL; rw [e1, List.take_left' (fixL_length _ _), sumL_fixL, Nat.mod_eq_of_lt (by simpa using hlo)]
  have := keyR_any h
  rw [e2, e3, e4, e5] at this
  exact this
theorem back_fix (n : Nat) (t : List Int) (hn : n < 18446744073709551616) {far : List Nat} {w : World} {b : Nat} (h : Rd 80 far w b (fixL n 8 ++ t) 0) : Calls Try.prog 41 #[.pointer (some ⟨b, 0, none⟩), .int .i64 8] w fun e' w' => e' = .returned (.int .u64 n) ∧ Rd 80 far w' b t 0 ∧ w.grownBy w' (some b) := by
  have hll : ¬ (fixL n 8 ++ t).length < (8 : Int).toNat := by rw [List.length_append, fixL_length]; omega
  have e1 : fxV (fixL n 8 ++ t) 0 8 = n := by
    unfold fxV tkV; rw [if_pos (by omega), if_neg (by simp), if_neg hll, show (8 : Int).toNat = 8 from rfl, List.take_left' (fixL_length _ _), sumL_fixL, Nat.mod_eq_of_lt (by simpa using hn)]
  have e2 : fxS (fixL n 8 ++ t) 0 8 = t := by
    unfold fxS tkS; rw [if_pos (by omega), if_neg (by simp), if_neg hll, show (8 : Int).toNat = 8 from rfl, List.drop_left' (fixL_length _ _)]
  have e3 : fxE (fixL n 8 ++ t) 0 8 = 0 := by
    unfold fxE tkE; rw [if_pos (by omega), if_neg (by simp), if_neg hll]
  have := fixedR_any h 8
  rw [e1, e2, e3] at this
  exact this
/-- The word's box in block g; nothing that stood before has turned. -/
def Bs (w : World) (hi lo : Nat) (w' : World) : Prop := Blk w' w.heap.size 35 #[.int .u64 ((hi : Int) % 256), .int .u64 lo] ∧ Below w.heap.size w w'
theorem Bs.grew {w : World} {hi lo : Nat} {w1 w2 : World} {b : Nat} (hg : w1.grownBy w2 (some b)) (hb : w.heap.size < b) (h : Bs w hi lo w1) : Bs w hi lo w2 :=
  ⟨h.1.grew hg (by omega), Below.grown h.2 hg h.2.size (by intro r hr; injection hr with hr; omega)⟩
theorem Bs.next {w : World} {hi lo : Nat} {w1 w2 : World} (hb : Below w1.heap.size w1 w2) (h : Bs w hi lo w1) : Bs w hi lo w2 := ⟨h.1.below hb, below_via hb h.2⟩

set_option linter.unusedSimpArgs false in
set_option maxRecDepth 100000 in
set_option maxHeartbeats 3200000 in
theorem binBack_main (A : Option Addr) (c : Nat) (l : List Int) (hi lo n : Nat) (w : World) (hr : Row w .i64 A l) (hw : ∀ x ∈ l, x < 9223372036854775808) (hl : l.length ≤ 60) (hlo : lo < 18446744073709551616) (hn : n < 18446744073709551616) : Calls Try.prog 9 #[.slice A l.length c, .agg #[.int .u64 hi, .int .u64 lo], .int .u64 n] w fun e w' => e = .returned (.bool true) ∧ Below w.heap.size w w' := by
  have h8 : decide ((60 : Int) < l.length) = false := by simp; omega
  have HR := Lib.hid hr
  have HW := Lib.hid hw
  have HK : Hid (∀ w : World, Calls Try.prog 36 #[.agg #[.int .u64 ((hi : Int) % 256), .int .u64 lo]] w fun e w' => ∃ g cp, w.heap.size ≤ g ∧ e = .returned (.slice (some ⟨g, 0, none⟩) 9 cp) ∧ OwnRow w' 5 .u8 g cp (fixL lo 8 ++ [((hi % 256 : Nat) : Int)]) ∧ Below w.heap.size w w') := fun w => key_yes (hi % 256) lo w (by omega)
  have HF : Hid (∀ w : World, Calls Try.prog 32 #[.int .u64 n, .int .i64 8] w fun e w' => ∃ g cp, w.heap.size ≤ g ∧ e = .returned (.slice (some ⟨g, 0, none⟩) 8 cp) ∧ OwnRow w' 5 .u8 g cp (fixL n 8) ∧ Below w.heap.size w w') := fun w => fixed_yes n 8 w (by omega) (by omega) (.inl rfl)
  have HN : Hid (∀ (z : Int) (w : World), z < 9223372036854775808 → Calls Try.prog 34 #[.int .i64 z] w fun e w' => ∃ A c, e = .returned (.slice A (numW z).length c) ∧ Row w' .u8 A (numW z) ∧ (A = none → c = 0) ∧ Below w.heap.size w w') := fun z w h => num_gives z w h
  have HB0 : Hid (Blk ((w.alloc (.cells #[.int .u64 ((hi : Int) % 256), .int .u64 lo] 35)).alloc (.cells #[] 5)) w.heap.size 35 #[.int .u64 ((hi : Int) % 256), .int .u64 lo]) := Lib.hid ((Blk.new w 35 #[.int .u64 ((hi : Int) % 256), .int .u64 lo]).alloc _)
  have HO0 : Hid (OwnRow ((w.alloc (.cells #[.int .u64 ((hi : Int) % 256), .int .u64 lo] 35)).alloc (.cells #[] 5)) 5 .u8 (w.heap.size + 1) 0 []) := by
    have := own_none (w.alloc (.cells #[.int .u64 ((hi : Int) % 256), .int .u64 lo] 35))
    rw [World.size_alloc] at this
    exact this
  have HS0 : Hid (Below w.heap.size w ((w.alloc (.cells #[.int .u64 ((hi : Int) % 256), .int .u64 lo] 35)).alloc (.cells #[] 5))) := Lib.hid (((Below.refl _ w).alloc (Nat.le_refl _) _).alloc (by simp) _)
  have HLO := Lib.hid hlo
  have HNN := Lib.hid hn
  clear hr hw hlo hn
  go_enter Try.func9, Try.ntmps9
  go_wp2
  go_loopw [7, 8] (fun v7 v8 wr => ∃ (i g cp m : Nat) (pre : List Int), i ≤ l.length ∧ v8 = .int .i64 i ∧ v7 = .slice (some ⟨g, 0, none⟩) m cp ∧ w.heap.size < g ∧ Hid (pre.length = m) ∧ m ≤ 26 * i ∧ Hid (OwnRow wr 5 .u8 g cp pre) ∧ Hid (pre = backL (hi % 256) lo n (l.take i)) ∧ Hid (Blk wr w.heap.size 35 #[.int .u64 ((hi : Int) % 256), .int .u64 lo]) ∧ Hid (Below w.heap.size w wr)) (fun _ v _ => l.length - (intOf v).toNat)
  case atStart => exact ⟨0, w.heap.size + 1, 0, 0, [], by omega, rfl, rfl, by omega, Lib.hid rfl, by omega, HO0, Lib.hid rfl, HB0, HS0⟩
  case round =>
    clear HO0 HB0 HS0
    obtain ⟨i, g, cp, m, pre, hi', rfl, rfl, hg, HPL, hm, HO, HP, HX, HB⟩ := hrel
    by_cases hlt : i < l.length
    · have HRw := Lib.hid (HR.out.below HB.out)
      obtain ⟨ad', e, hc⟩ := HRw.out.2 i hlt
      subst e
      have hz := HW.out _ (List.getElem_mem hlt)
      have HNL := Lib.hid (numW_len l[i] hz)
      have hgl := HO.out.lt
      have HSN := Lib.hid (backL_snoc (hi % 256) lo n l i hlt)
      have hxl := HX.out.lt
      obtain ⟨x0, x1⟩ := HX.out.two
      go_wp2_with fail
      refine (HN.out _ _ hz).mono ?_
      rintro e w1 ⟨A1, c1, rfl, hr1, hn1, hb1⟩
      have HO1 := Lib.hid (HO.out.below hb1)
      have HX1 := Lib.hid (HX.out.below hb1)
      have HB1 := Lib.hid (below_via hb1 HB.out)
      have HR1 := Lib.hid hr1
      have HN1 := Lib.hid hn1
      have hs1 := hb1.size
      clear hb1 hr1 hn1 HX HB HO x0 x1
      have hnl := HNL.out
      obtain ⟨y0, y1⟩ := HX1.out.two
      obtain ⟨k1, HK1⟩ : ∃ k, Hid ((numW l[i]).length = k) := ⟨_, Lib.hid rfl⟩
      rw [HK1.out] at hnl
      rw [HK1.out]
      go_wp2_with (first
        | (at_builtin; refine append_bytes_any rfl (.tmp 26) (.tmp 31) rfl (w.heap.size + 1) g cp m k1 (m + k1) pre (numW l[i]) HPL.out HK1.out rfl rfl HO1.out hg (by omega) A1 c1 rfl HR1.out HN1.out (by omega) ?_; intro g2 cp2 w2 hown2 hg2 hgrow2
           have HO2 := Lib.hid hown2
           have HX2 := Lib.hid (HX1.out.grew hgrow2 (by omega))
           have HB2 := Lib.hid (Below.grown HB1.out hgrow2 HB1.out.size (by intro r hr; injection hr with hr; omega))
           have hs2 := hgrow2.size
           have hgl2 := hown2.lt
           clear hown2 hgrow2 y0 y1
           obtain ⟨y0, y1⟩ := HX2.out.two))
      refine (HK.out _).mono ?_
      rintro e w3 ⟨g3, cp3, hg3, rfl, ho3, hb3⟩
      have HO3 := Lib.hid (HO2.out.below hb3)
      have HX3 := Lib.hid (HX2.out.below hb3)
      have HB3 := Lib.hid (below_via hb3 HB2.out)
      have HR3 := Lib.hid ho3.row
      have hs3 := hb3.size
      clear hb3 ho3 HX2 HB2 HO2 y0 y1
      obtain ⟨y0, y1⟩ := HX3.out.two
      go_wp2_with (first
        | (at_builtin; refine append_bytes_any rfl (.tmp 33) (.tmp 35) rfl (w.heap.size + 1) g2 cp2 (m + k1) 9 (m + k1 + 9) (pre ++ numW l[i]) (fixL lo 8 ++ [((hi % 256 : Nat) : Int)]) (by rw [List.length_append, HPL.out, HK1.out]) (by simp [fixL_length]) rfl rfl HO3.out hg2 (by omega) (some ⟨g3, 0, none⟩) cp3 rfl HR3.out (fun e => by cases e) (by omega) ?_; intro g4 cp4 w4 hown4 hg4 hgrow4
           have HO4 := Lib.hid hown4
           have HX4 := Lib.hid (HX3.out.grew hgrow4 (by omega))
           have HB4 := Lib.hid (Below.grown HB3.out hgrow4 HB3.out.size (by intro r hr; injection hr with hr; omega))
           have hs4 := hgrow4.size
           have hgl4 := hown4.lt
           clear hown4 hgrow4 y0 y1
           obtain ⟨y0, y1⟩ := HX4.out.two))
      refine (HF.out _).mono ?_
      rintro e w5 ⟨g5, cp5, hg5, rfl, ho5, hb5⟩
      have HO5 := Lib.hid (HO4.out.below hb5)
      have HX5 := Lib.hid (HX4.out.below hb5)
      have HB5 := Lib.hid (below_via hb5 HB4.out)
      have HR5 := Lib.hid ho5.row
      have hs5 := hb5.size
      clear hb5 ho5 HX4 HB4 HO4 y0 y1
      go_wp2_with (first
        | (at_builtin; refine append_bytes_any rfl (.tmp 37) (.tmp 39) rfl (w.heap.size + 1) g4 cp4 (m + k1 + 9) 8 (m + k1 + 9 + 8) ((pre ++ numW l[i]) ++ (fixL lo 8 ++ [((hi % 256 : Nat) : Int)])) (fixL n 8) (by rw [List.length_append, List.length_append, HPL.out, HK1.out]; simp [fixL_length]) (fixL_length _ _) rfl rfl HO5.out hg4 (by omega) (some ⟨g5, 0, none⟩) cp5 rfl HR5.out (fun e => by cases e) (by omega) ?_; intro g6 cp6 w6 hown6 hg6 hgrow6
           have HO6 := Lib.hid hown6
           have HX6 := Lib.hid (HX5.out.grew hgrow6 (by omega))
           have HB6 := Lib.hid (Below.grown HB5.out hgrow6 HB5.out.size (by intro r hr; injection hr with hr; omega))
           clear hown6 hgrow6))
      go_roundw
      case rel => exact ⟨i + 1, g6, cp6, m + k1 + 9 + 8, _, by omega, by go_num, rfl, by omega, Lib.hid (by rw [List.length_append, List.length_append, List.length_append, HPL.out, HK1.out]; simp [fixL_length]), by omega, HO6, Lib.hid (by rw [HSN.out, ← HP.out]), HX6, HB6⟩
      case measure => simp [intOf]; omega
    · obtain rfl : i = l.length := by omega
      have HPE : Hid (pre = backL (hi % 256) lo n l) := Lib.hid (by rw [HP.out, List.take_length])
      have hm2 : m ≤ 1560 := by omega
      have HNR : Hid (∀ w, Row w .u8 (some ⟨g, 0, none⟩) pre → Calls Try.prog 38 #[.slice (some ⟨g, 0, none⟩) m cp] w fun e w' => ∃ b, w.heap.size ≤ b ∧ e = .returned (.pointer (some ⟨b, 0, none⟩)) ∧ Rd 80 [] w' b (backL (hi % 256) lo n l) 0 ∧ Below w.heap.size w w') := fun w h => by
        have := newReader_any (c := cp) h (by rw [HPE.out]; exact byt_backL _ _ _ _ (by omega)) (fun e => by cases e) (by rw [HPL.out]; omega)
        rw [HPL.out, HPE.out] at this
        exact this
      have hsz := HX.out.lt
      go_wp2_with fail
      refine (HNR.out _ HO.out.row).mono ?_
      rintro e w1 ⟨b, hb0, rfl, h1, hb1⟩
      have hbb : w.heap.size < b := by omega
      have H1 := Lib.hid h1
      have BS1 : Hid (Bs w hi lo w1) := Lib.hid (Bs.next hb1 ⟨HX.out, HB.out⟩)
      clear h1 hb1 HNR HX HB HO HPL HP HPE hb0 HK HF HN
      go_wp2
      go_loopw [10] (fun v wr => ∃ i : Nat, i ≤ l.length ∧ v = .int .i64 i ∧ Hid (Rd 80 [] wr b (backL (hi % 256) lo n (l.drop i)) 0) ∧ Hid (Bs w hi lo wr)) (fun v _ => l.length - (intOf v).toNat)
      case atStart => exact ⟨0, by omega, rfl, H1, BS1⟩
      case round =>
        clear H1 BS1
        obtain ⟨i, hi2, rfl, H, BS⟩ := hrel
        by_cases hlt : i < l.length
        · obtain ⟨ad, e, hc0⟩ := HR.out.2 i hlt
          subst e
          have hz := HW.out _ (List.getElem_mem hlt)
          have HD := Lib.hid (backL_drop (hi % 256) lo n l i hlt)
          have hst : Bs w hi lo wr.drew := ⟨BS.out.1, BS.out.2.drew⟩
          have hrd : Rd 80 [] wr.drew b (backL (hi % 256) lo n (l.drop i)) 0 := H.out
          rw [HD.out] at hrd
          clear H BS HD
          by_cases hz0 : 0 ≤ l[i]
          · have HNM : Hid (∀ w, Rd 80 [] w b (oneL (hi % 256) lo n l[i] ++ backL (hi % 256) lo n (l.drop (i + 1))) 0 → Calls Try.prog 39 #[.pointer (some ⟨b, 0, none⟩)] w fun e' w' => e' = .returned (.int .i64 l[i]) ∧ Rd 80 [] w' b ((fixL lo 8 ++ [((hi % 256 : Nat) : Int)]) ++ (fixL n 8 ++ backL (hi % 256) lo n (l.drop (i + 1)))) 0 ∧ w.grownBy w' (some b)) := fun w h => by
              generalize l[i] = z at *
              obtain ⟨k, rfl⟩ := Int.eq_ofNat_of_zero_le hz0
              have e : oneL (hi % 256) lo n k = numL k ++ ((fixL lo 8 ++ [((hi % 256 : Nat) : Int)]) ++ fixL n 8) := by unfold oneL numW; rw [if_pos hz0]; rfl
              rw [e, List.append_assoc, List.append_assoc] at h
              exact back_num k _ (by omega) h
            have HKY : Hid (∀ w, Rd 80 [] w b ((fixL lo 8 ++ [((hi % 256 : Nat) : Int)]) ++ (fixL n 8 ++ backL (hi % 256) lo n (l.drop (i + 1)))) 0 → Calls Try.prog 40 #[.pointer (some ⟨b, 0, none⟩)] w fun e' w' => e' = .returned (.agg #[.int .u64 ((hi : Int) % 256), .int .u64 lo]) ∧ Rd 80 [] w' b (fixL n 8 ++ backL (hi % 256) lo n (l.drop (i + 1))) 0 ∧ w.grownBy w' (some b)) := fun w h => back_key (hi % 256) lo _ HLO.out h
            have HFX : Hid (∀ w, Rd 80 [] w b (fixL n 8 ++ backL (hi % 256) lo n (l.drop (i + 1))) 0 → Calls Try.prog 41 #[.pointer (some ⟨b, 0, none⟩), .int .i64 8] w fun e' w' => e' = .returned (.int .u64 n) ∧ Rd 80 [] w' b (backL (hi % 256) lo n (l.drop (i + 1))) 0 ∧ w.grownBy w' (some b)) := fun w h => back_fix n _ HNN.out h
            go_wp2_with fail
            go_region_held3 (fun w' => w'.cell? (ad.add i) = some (.int .i64 l[i]) ∧ w'.cell? ⟨w.heap.size, 0, none⟩ = some (.int .u64 ((hi : Int) % 256)) ∧ w'.cell? ⟨w.heap.size, 1, none⟩ = some (.int .u64 lo)) (first | exact ⟨cell_below hst.2 hc0, hst.1.two.1, hst.1.two.2⟩) (first
              | (go_at_call 39; refine (HNM.out _ hrd).mono ?_; rintro e w' ⟨rfl, hrd, hg⟩; have hst := Bs.grew hg hbb hst; clear hg)
              | (go_at_call 40; refine (HKY.out _ hrd).mono ?_; rintro e w' ⟨rfl, hrd, hg⟩; have hst := Bs.grew hg hbb hst; clear hg)
              | (go_at_call 41; refine (HFX.out _ hrd).mono ?_; rintro e w' ⟨rfl, hrd, hg⟩; have hst := Bs.grew hg hbb hst; clear hg))
            all_goals (
              have HRD := Lib.hid hrd
              have HST := Lib.hid hst
              clear hrd hst HNM HKY HFX
              go_wp2
              go_roundw
              case rel => exact ⟨i + 1, by omega, by go_num, HRD, HST⟩
              case measure => simp [intOf]; omega)
          · have hd0 : decide (0 ≤ l[i]) = false := decide_eq_false hz0
            have hd1 : l[i] < 0 := by omega
            have HKY : Hid (∀ w, Rd 80 [] w b ((fixL lo 8 ++ [((hi % 256 : Nat) : Int)]) ++ (fixL n 8 ++ backL (hi % 256) lo n (l.drop (i + 1)))) 0 → Calls Try.prog 40 #[.pointer (some ⟨b, 0, none⟩)] w fun e' w' => e' = .returned (.agg #[.int .u64 ((hi : Int) % 256), .int .u64 lo]) ∧ Rd 80 [] w' b (fixL n 8 ++ backL (hi % 256) lo n (l.drop (i + 1))) 0 ∧ w.grownBy w' (some b)) := fun w h => back_key (hi % 256) lo _ HLO.out h
            have HFX : Hid (∀ w, Rd 80 [] w b (fixL n 8 ++ backL (hi % 256) lo n (l.drop (i + 1))) 0 → Calls Try.prog 41 #[.pointer (some ⟨b, 0, none⟩), .int .i64 8] w fun e' w' => e' = .returned (.int .u64 n) ∧ Rd 80 [] w' b (backL (hi % 256) lo n (l.drop (i + 1))) 0 ∧ w.grownBy w' (some b)) := fun w h => back_fix n _ HNN.out h
            have e : oneL (hi % 256) lo n l[i] = (fixL lo 8 ++ [((hi % 256 : Nat) : Int)]) ++ fixL n 8 := by unfold oneL numW; rw [if_neg hz0]; rfl
            rw [e, List.append_assoc] at hrd
            clear e hz0
            go_wp2_with fail
            refine wp_region_held_drew (S := (fun w' => w'.cell? (ad.add i) = some (.int .i64 l[i]) ∧ w'.cell? ⟨w.heap.size, 0, none⟩ = some (.int .u64 ((hi : Int) % 256)) ∧ w'.cell? ⟨w.heap.size, 1, none⟩ = some (.int .u64 lo))) (by kernel_rfl) ⟨cell_below hst.2 hc0, hst.1.two.1, hst.1.two.2⟩ (fun hHeld => ?_)
            refine wpAnyH_take (i := 0) (v := ?_) rfl (by kernel_rfl) (by kernel_rfl) (by kernel_rfl) (fun _ _ _ h => h) (Or.inl ⟨by rfl, ?_⟩) (by assumption) ?_
            rotate_left
            · intro w hSw
              (try dsimp only at hSw)
              (go_simp <;> (try with_reducible rfl))
            try simp only [Act.put, List.getElem_toArray, List.getElem_cons_zero, List.getElem_cons_succ, List.setIfInBounds_toArray, List.set_cons_zero, List.set_cons_succ]
            refine wpAnyH_take (i := 1) (v := ?_) rfl (by kernel_rfl) (by kernel_rfl) (by kernel_rfl) (fun _ _ _ h => h) (Or.inl ⟨by rfl, ?_⟩) (by assumption) ?_
            rotate_left
            · intro w hSw
              (try dsimp only at hSw)
              (go_simp <;> (try with_reducible rfl))
            try simp only [Act.put, List.getElem_toArray, List.getElem_cons_zero, List.getElem_cons_succ, List.setIfInBounds_toArray, List.set_cons_zero, List.set_cons_succ]
            refine wpAnyH_take (i := 2) (v := ?_) rfl (by kernel_rfl) (by kernel_rfl) (by kernel_rfl) (fun _ _ _ h => h) (Or.inl ⟨by rfl, ?_⟩) (by assumption) ?_
            rotate_left
            · intro w hSw
              (try dsimp only at hSw)
              (go_simp <;> (try with_reducible rfl))
            try simp only [Act.put, List.getElem_toArray, List.getElem_cons_zero, List.getElem_cons_succ, List.setIfInBounds_toArray, List.set_cons_zero, List.set_cons_succ]
            refine wpAnyH_take (i := 3) (v := ?_) rfl (by kernel_rfl) (by kernel_rfl) (by kernel_rfl) (fun _ _ _ h => h) (Or.inl ⟨by rfl, ?_⟩) (by assumption) ?_
            rotate_left
            · intro w hSw
              (try dsimp only at hSw)
              (go_simp <;> (try with_reducible rfl))
            try simp only [Act.put, List.getElem_toArray, List.getElem_cons_zero, List.getElem_cons_succ, List.setIfInBounds_toArray, List.set_cons_zero, List.set_cons_succ]
            refine wpAnyH_take (i := 4) (v := ?_) rfl (by kernel_rfl) (by kernel_rfl) (by kernel_rfl) (fun _ _ _ h => h) (Or.inl ⟨by rfl, ?_⟩) (by assumption) ?_
            rotate_left
            · intro w hSw
              (try dsimp only at hSw)
              (go_simp <;> (try with_reducible rfl))
            try simp only [Act.put, List.getElem_toArray, List.getElem_cons_zero, List.getElem_cons_succ, List.setIfInBounds_toArray, List.set_cons_zero, List.set_cons_succ]
            refine wpAnyH_take (i := 5) (v := ?_) rfl (by kernel_rfl) (by kernel_rfl) (by kernel_rfl) (fun _ _ _ h => h) (Or.inl ⟨by rfl, ?_⟩) (by assumption) ?_
            rotate_left
            · intro w hSw
              (try dsimp only at hSw)
              (go_simp <;> (try with_reducible rfl))
            try simp only [Act.put, List.getElem_toArray, List.getElem_cons_zero, List.getElem_cons_succ, List.setIfInBounds_toArray, List.set_cons_zero, List.set_cons_succ]
            refine wpAnyH_take (i := 6) (v := undef) rfl (by kernel_rfl) (by kernel_rfl) (by kernel_rfl) (fun _ _ _ h => h) (Or.inr ⟨by rfl, rfl⟩) (by assumption) ?_
            try simp only [Act.put, List.getElem_toArray, List.getElem_cons_zero, List.getElem_cons_succ, List.setIfInBounds_toArray, List.set_cons_zero, List.set_cons_succ]
            refine wpAnyH_take (i := 8) (v := undef) rfl (by kernel_rfl) (by kernel_rfl) (by kernel_rfl) (fun _ _ _ h => h) (Or.inr ⟨by rfl, rfl⟩) (by assumption) ?_
            try simp only [Act.put, List.getElem_toArray, List.getElem_cons_zero, List.getElem_cons_succ, List.setIfInBounds_toArray, List.set_cons_zero, List.set_cons_succ]
            refine wpAnyH_take (i := 9) (v := undef) rfl (by kernel_rfl) (by kernel_rfl) (by kernel_rfl) (fun _ _ _ h => h) (Or.inr ⟨by rfl, rfl⟩) (by assumption) ?_
            try simp only [Act.put, List.getElem_toArray, List.getElem_cons_zero, List.getElem_cons_succ, List.setIfInBounds_toArray, List.set_cons_zero, List.set_cons_succ]
            refine wpAnyH_take (i := 10) (v := undef) rfl (by kernel_rfl) (by kernel_rfl) (by kernel_rfl) (fun _ _ _ h => h) (Or.inr ⟨by rfl, rfl⟩) (by assumption) ?_
            try simp only [Act.put, List.getElem_toArray, List.getElem_cons_zero, List.getElem_cons_succ, List.setIfInBounds_toArray, List.set_cons_zero, List.set_cons_succ]
            refine wpAnyH_take (i := 11) (v := undef) rfl (by kernel_rfl) (by kernel_rfl) (by kernel_rfl) (fun _ _ _ h => h) (Or.inr ⟨by rfl, rfl⟩) (by assumption) ?_
            try simp only [Act.put, List.getElem_toArray, List.getElem_cons_zero, List.getElem_cons_succ, List.setIfInBounds_toArray, List.set_cons_zero, List.set_cons_succ]
            refine wpAnyH_take (i := 7) (v := undef) rfl (by kernel_rfl) (by kernel_rfl) (by kernel_rfl) (fun _ _ _ h => h) (Or.inr ⟨by rfl, rfl⟩) (by assumption) ?_
            try simp only [Act.put, List.getElem_toArray, List.getElem_cons_zero, List.getElem_cons_succ, List.setIfInBounds_toArray, List.set_cons_zero, List.set_cons_succ]
            refine wpAnyH_take (i := 12) (v := undef) rfl (by kernel_rfl) (by kernel_rfl) (by kernel_rfl) (fun _ _ _ h => h) (Or.inr ⟨by rfl, rfl⟩) (by assumption) ?_
            try simp only [Act.put, List.getElem_toArray, List.getElem_cons_zero, List.getElem_cons_succ, List.setIfInBounds_toArray, List.set_cons_zero, List.set_cons_succ]
            refine wpAnyH_take (i := 13) (v := ?_) rfl (by kernel_rfl) (by kernel_rfl) (by kernel_rfl) (fun _ _ _ h => h) (Or.inl ⟨by rfl, ?_⟩) (by assumption) ?_
            rotate_left
            · intro w hSw
              (try dsimp only at hSw)
              (go_simp <;> (try with_reducible rfl))
            try simp only [Act.put, List.getElem_toArray, List.getElem_cons_zero, List.getElem_cons_succ, List.setIfInBounds_toArray, List.set_cons_zero, List.set_cons_succ]
            refine wpAnyH_take (i := 14) (v := ?_) rfl (by kernel_rfl) (by kernel_rfl) (by kernel_rfl) (fun _ _ _ h => h) (Or.inl ⟨by rfl, ?_⟩) (by assumption) ?_
            rotate_left
            · intro w hSw
              (try dsimp only at hSw)
              (go_simp <;> (try with_reducible rfl))
            try simp only [Act.put, List.getElem_toArray, List.getElem_cons_zero, List.getElem_cons_succ, List.setIfInBounds_toArray, List.set_cons_zero, List.set_cons_succ]
            refine wpAnyH_take (i := 15) (v := ?_) rfl (by kernel_rfl) (by kernel_rfl) (by kernel_rfl) (fun _ _ _ h => h) (Or.inl ⟨by rfl, ?_⟩) (by assumption) ?_
            rotate_left
            · intro w hSw
              (try dsimp only at hSw)
              (go_simp <;> (try with_reducible rfl))
            try simp only [Act.put, List.getElem_toArray, List.getElem_cons_zero, List.getElem_cons_succ, List.setIfInBounds_toArray, List.set_cons_zero, List.set_cons_succ]
            refine wpAnyH_take (i := 17) (v := ?_) rfl (by kernel_rfl) (by kernel_rfl) (by kernel_rfl) (fun _ _ _ h => h) (Or.inl ⟨by rfl, ?_⟩) (by assumption) ?_
            rotate_left
            · intro w hSw
              (try dsimp only at hSw)
              (go_simp <;> (try with_reducible rfl))
            try simp only [Act.put, List.getElem_toArray, List.getElem_cons_zero, List.getElem_cons_succ, List.setIfInBounds_toArray, List.set_cons_zero, List.set_cons_succ]
            refine wpAnyH_ready (rs := [16]) (by kernel_rfl) (by simp) ?_
            refine AllReadyH.cons rfl (fun K hK => ?_) AllReadyH.nil
            go_simp
            refine (HKY.out _ hrd).mono ?_
            rintro e w2 ⟨rfl, hrd, hg⟩
            have hst := Bs.grew hg hbb hst
            clear hg
            try (go_wp2_with fail)
            refine hK.out _ _ ⟨cell_below hst.2 hc0, hst.1.two.1, hst.1.two.2⟩ (fun hHeld => ?_)
            clear hK K
            try simp only [Act.put, List.getElem_toArray, List.getElem_cons_zero, List.getElem_cons_succ, List.setIfInBounds_toArray, List.set_cons_zero, List.set_cons_succ]
            refine wpAnyH_take (i := 18) (v := ?_) rfl (by kernel_rfl) (by kernel_rfl) (by kernel_rfl) (fun _ _ _ h => h) (Or.inl ⟨by rfl, ?_⟩) (by assumption) ?_
            rotate_left
            · intro w hSw
              (try dsimp only at hSw)
              (go_simp <;> (try with_reducible rfl))
            try simp only [Act.put, List.getElem_toArray, List.getElem_cons_zero, List.getElem_cons_succ, List.setIfInBounds_toArray, List.set_cons_zero, List.set_cons_succ]
            refine wpAnyH_take (i := 19) (v := ?_) rfl (by kernel_rfl) (by kernel_rfl) (by kernel_rfl) (fun _ _ _ h => h) (Or.inl ⟨by rfl, ?_⟩) (by assumption) ?_
            rotate_left
            · intro w hSw
              (try dsimp only at hSw)
              (go_simp <;> (try with_reducible rfl))
            try simp only [Act.put, List.getElem_toArray, List.getElem_cons_zero, List.getElem_cons_succ, List.setIfInBounds_toArray, List.set_cons_zero, List.set_cons_succ]
            refine wpAnyH_take (i := 20) (v := ?_) rfl (by kernel_rfl) (by kernel_rfl) (by kernel_rfl) (fun _ _ _ h => h) (Or.inl ⟨by rfl, ?_⟩) (by assumption) ?_
            rotate_left
            · intro w hSw
              (try dsimp only at hSw)
              (go_simp <;> (try with_reducible rfl))
            try simp only [Act.put, List.getElem_toArray, List.getElem_cons_zero, List.getElem_cons_succ, List.setIfInBounds_toArray, List.set_cons_zero, List.set_cons_succ]
            refine wpAnyH_take (i := 21) (v := ?_) rfl (by kernel_rfl) (by kernel_rfl) (by kernel_rfl) (fun _ _ _ h => h) (Or.inl ⟨by rfl, ?_⟩) (by assumption) ?_
            rotate_left
            · intro w hSw
              (try dsimp only at hSw)
              (go_simp <;> (try with_reducible rfl))
            try simp only [Act.put, List.getElem_toArray, List.getElem_cons_zero, List.getElem_cons_succ, List.setIfInBounds_toArray, List.set_cons_zero, List.set_cons_succ]
            refine wpAnyH_take (i := 23) (v := ?_) rfl (by kernel_rfl) (by kernel_rfl) (by kernel_rfl) (fun _ _ _ h => h) (Or.inl ⟨by rfl, ?_⟩) (by assumption) ?_
            rotate_left
            · intro w hSw
              (try dsimp only at hSw)
              (go_simp <;> (try with_reducible rfl))
            try simp only [Act.put, List.getElem_toArray, List.getElem_cons_zero, List.getElem_cons_succ, List.setIfInBounds_toArray, List.set_cons_zero, List.set_cons_succ]
            refine wpAnyH_ready (rs := [22]) (by kernel_rfl) (by simp) ?_
            refine AllReadyH.cons rfl (fun K hK => ?_) AllReadyH.nil
            go_simp
            refine (HFX.out _ hrd).mono ?_
            rintro e w3 ⟨rfl, hrd, hg⟩
            have hst := Bs.grew hg hbb hst
            clear hg
            try (go_wp2_with fail)
            refine hK.out _ _ ⟨cell_below hst.2 hc0, hst.1.two.1, hst.1.two.2⟩ (fun hHeld => ?_)
            clear hK K
            try simp only [Act.put, List.getElem_toArray, List.getElem_cons_zero, List.getElem_cons_succ, List.setIfInBounds_toArray, List.set_cons_zero, List.set_cons_succ]
            refine wpAnyH_take (i := 24) (v := ?_) rfl (by kernel_rfl) (by kernel_rfl) (by kernel_rfl) (fun _ _ _ h => h) (Or.inl ⟨by rfl, ?_⟩) (by assumption) ?_
            rotate_left
            · intro w hSw
              (try dsimp only at hSw)
              (go_simp <;> (try with_reducible rfl))
            try simp only [Act.put, List.getElem_toArray, List.getElem_cons_zero, List.getElem_cons_succ, List.setIfInBounds_toArray, List.set_cons_zero, List.set_cons_succ]
            refine wpAnyH_take (i := 25) (v := ?_) rfl (by kernel_rfl) (by kernel_rfl) (by kernel_rfl) (fun _ _ _ h => h) (Or.inl ⟨by rfl, ?_⟩) (by assumption) ?_
            rotate_left
            · intro w hSw
              (try dsimp only at hSw)
              (go_simp <;> (try with_reducible rfl))
            try simp only [Act.put, List.getElem_toArray, List.getElem_cons_zero, List.getElem_cons_succ, List.setIfInBounds_toArray, List.set_cons_zero, List.set_cons_succ]
            refine wpAnyH_done (by kernel_rfl) ?_ _
            have HRD := Lib.hid hrd
            have HST := Lib.hid hst
            clear hrd hst HKY HFX
            go_wp2
            go_roundw
            case rel => exact ⟨i + 1, by omega, by go_num, HRD, HST⟩
            case measure => simp [intOf]; omega
        · obtain rfl : i = l.length := by omega
          have HRD : Hid (Rd 80 [] wr b [] 0) := by
            have := H.out
            rw [List.drop_length] at this
            exact this
          go_wp2_with fail
          refine (live03_any _).mono ?_
          rintro e w2 ⟨rfl, hb2⟩
          have H2 := Lib.hid (HRD.out.after hb2)
          have BS2 := Lib.hid (Bs.next hb2 BS.out)
          clear hb2 HRD BS H
          go_wp2_with fail
          refine (left_any H2.out).mono ?_
          rintro e w3 ⟨rfl, rfl⟩
          go_wp2_with fail
          refine (err_any H2.out).mono ?_
          rintro e w4 ⟨rfl, rfl⟩
          go_wp2
          go_ret
          exact ⟨rfl, BS2.out.2⟩
set_option maxHeartbeats 800000 in
theorem binBack_big (A : Option Addr) (k c : Nat) (hi lo n : Int) (w : World) (h : 60 < k) (hk : k ≤ 9223372036854775807) : Calls Try.prog 9 #[.slice A k c, .agg #[.int .u64 hi, .int .u64 lo], .int .u64 n] w fun e w' => e = .returned (.bool true) ∧ Below w.heap.size w w' := by
  have h8 : decide ((60 : Int) < k) = true := by simp; omega
  clear h
  go_enter Try.func9, Try.ntmps9
  go_wp2_with fail
  refine (live03_any _).mono ?_
  rintro e w1 ⟨rfl, hb⟩
  have HB := Lib.hid (below_via hb ((Below.refl _ w).alloc (Nat.le_refl _) _))
  clear hb
  go_wp2
  go_ret
  exact ⟨rfl, HB.out⟩
theorem binBack_walk (A : Option Addr) (c : Nat) (l : List Int) (hi lo n : Nat) (w : World) (hr : Row w .i64 A l) (hw : ∀ x ∈ l, x < 9223372036854775808) (hlo : lo < 18446744073709551616) (hn : n < 18446744073709551616) : Calls Try.prog 9 #[.slice A l.length c, .agg #[.int .u64 hi, .int .u64 lo], .int .u64 n] w fun e w' => e = .returned (.bool true) ∧ Below w.heap.size w w' := by
  by_cases h : 60 < l.length
  · exact binBack_big A l.length c hi lo n w h hr.1
  · exact binBack_main A c l hi lo n w hr hw (by omega) hlo hn
end Go.Proofs.Ytlndlcdamimbdaa
