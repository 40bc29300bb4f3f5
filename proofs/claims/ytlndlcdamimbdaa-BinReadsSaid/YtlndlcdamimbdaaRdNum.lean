/- The walk of bin's reader: Num. -/
import Derived.Test.YtlndlcdamimbdaaRdMore
namespace Go.Proofs.Ytlndlcdamimbdaa
open Go.RowKit

theorem ofInt_i64 (a : Nat) (_ha : a < 9223372036854775808) : (BitVec.ofInt 64 (a : Int)).toNat = a := by
  rw [BitVec.ofInt_natCast, BitVec.toNat_ofNat]; exact Nat.mod_eq_of_lt (by omega)
theorem i64_or_nat (a b : Nat) (ha : a < 9223372036854775808) (hb : b < 9223372036854775808) : bits .or .i64 (a : Int) (b : Int) = ((a ||| b : Nat) : Int) := by
  have hx : a ||| b < 2 ^ 63 := Nat.or_lt_two_pow (by omega) (by omega)
  show IntKind.i64.wrap ((BitVec.ofInt 64 (a : Int) ||| BitVec.ofInt 64 (b : Int)).toNat : Int) = _
  rw [BitVec.toNat_or, ofInt_i64 a ha, ofInt_i64 b hb, IntKind.wrap_i64]
  omega

theorem wrap64_eq (n : Int) : wrap64 n = IntKind.i64.wrap n := by rw [IntKind.wrap_i64]; unfold wrap64; rfl
theorem pow7 (k : Nat) : (128 : Nat) ^ k = 2 ^ (7 * k) := by rw [Nat.pow_mul]
/-- A piece of seven bits is laid behind the others. -/
theorem or_step (v x k : Nat) (hk : k ≤ 8) (hv : v < 128 ^ k) (hx : x < 128) : bits BinOp.or IntKind.i64 (v : Int) (wrap64 ((x : Int) * 2 ^ (7 * k))) = ((v + x * 128 ^ k : Nat) : Int) := by
  rw [pow7] at *
  have hp : 2 ^ (7 * k) ≤ 2 ^ 56 := Nat.pow_le_pow_right (by omega) (by omega)
  have h64 : x * 2 ^ (7 * k) < 9223372036854775808 := by
    have : x * 2 ^ (7 * k) ≤ 127 * 2 ^ 56 := Nat.mul_le_mul (by omega) hp
    omega
  have hs : v < 9223372036854775808 := by omega
  have e0 : ((x : Int) * 2 ^ (7 * k)) = ((x * 2 ^ (7 * k) : Nat) : Int) := by simp
  have e1 : wrap64 ((x : Int) * 2 ^ (7 * k)) = ((x * 2 ^ (7 * k) : Nat) : Int) := by
    rw [e0, wrap64_eq, IntKind.wrap_i64]; omega
  rw [e1, i64_or_nat v _ hs h64]
  have := Nat.two_pow_add_eq_or_of_lt hv x
  rw [Nat.or_comm, Nat.mul_comm x, ← this, Nat.add_comm]
theorem and127 (y : Int) (h0 : 0 ≤ y) (h1 : y < 256) : bits BinOp.and IntKind.u8 y 127 = y % 128 := bits_mask .u8 8 (by decide) wraps_u8 7 (by decide) y h0 h1
theorem num_step (l : List Int) (k : Nat) (h : k < l.length) (hk : k < 9) (hb : Byt l) : bits BinOp.or IntKind.i64 (valL (l.take k)) (wrap64 (wrap64 (bits BinOp.and IntKind.u8 l[k] 127) * 2 ^ (7 * k))) = (valL (l.take (k + 1)) : Int) := by
  have hl := valL_lt (l.take k)
  rw [List.length_take, Nat.min_eq_left (by omega)] at hl
  obtain ⟨h0, h1⟩ := hb.get k h
  rw [take_snocL l k h, valL_snoc, List.length_take, Nat.min_eq_left (by omega), and127 _ h0 h1]
  generalize l[k] = y at *
  obtain ⟨x, rfl⟩ := Int.eq_ofNat_of_zero_le h0
  have e : wrap64 ((x : Int) % 128) = ((x % 128 : Nat) : Int) := by unfold wrap64; omega
  rw [e, or_step _ _ k (by omega) hl (by omega), Int.toNat_natCast]
theorem num_last (l : List Int) (k : Nat) (h : k < l.length) (hk : k < 9) (hb : Byt l) (h127 : l[k] ≤ 127) : bits BinOp.or IntKind.i64 (valL (l.take k)) (wrap64 (l[k] * 2 ^ (7 * k))) = (valL (l.take (k + 1)) : Int) := by
  have hl := valL_lt (l.take k)
  rw [List.length_take, Nat.min_eq_left (by omega)] at hl
  obtain ⟨h0, h1⟩ := hb.get k h
  rw [take_snocL l k h, valL_snoc, List.length_take, Nat.min_eq_left (by omega)]
  generalize l[k] = y at *
  obtain ⟨x, rfl⟩ := Int.eq_ofNat_of_zero_le h0
  rw [or_step _ _ k (by omega) hl (by omega), Int.toNat_natCast, Nat.mod_eq_of_lt (by omega)]
theorem ret_i64 {a b : Int} (h : a = b) : Ending.returned (.int .i64 a) = .returned (.int .i64 b) := by rw [h]
set_option maxHeartbeats 1600000 in
theorem numR_any {T : TypeId} {far : List Nat} {w : World} {b : Nat} {l : List Int} (h : Rd T far w b l 0) : Calls Try.prog 39 #[.pointer (some ⟨b, 0, none⟩)] w fun e' w' => e' = .returned (.int .i64 (numV l 0)) ∧ Rd T far w' b (numS l 0) (numE l 0) ∧ w.grownBy w' (some b) := by
  have H := Lib.hid h
  have hll := h.len
  obtain ⟨ad, c, h1, h2, h3, h4, h5, h6, h7⟩ := h
  obtain ⟨c0, c1⟩ := h1.two
  have H2 := Lib.hid h2
  have HB := Lib.hid h6
  clear h1 h2 h4 h5 h6 h7
  have HL := Lib.hid (lead_le l)
  go_enter Try.func39, Try.ntmps39
  go_wp2_with fail
  refine (ok_yes H.out).mono ?_
  rintro e w1 ⟨rfl, rfl⟩
  go_wp2
  go_loop [3, 4] (fun v i => ∃ k : Nat, k ≤ lead l ∧ k ≤ 9 ∧ i = .int .i64 k ∧ v = .int .i64 (valL (l.take k))) (fun _ i => 9 - (intOf i).toNat)
  case atStart => exact ⟨0, by omega, by omega, rfl, rfl⟩
  case round =>
    obtain ⟨k, hk, hk9, rfl, rfl⟩ := hrel
    have hkl : k ≤ l.length := Nat.le_trans hk HL.out
    by_cases h9 : k < 9
    · by_cases hlt : k < lead l
      · have hlen : k < l.length := Nat.lt_of_lt_of_le hlt HL.out
        obtain ⟨ad', e, hc⟩ := H2.out.2 k hlen
        injection e with e
        subst e
        have h127 := lead_gt l k hlen hlt
        obtain ⟨hb0, hb1⟩ := HB.out.get k hlen
        have HE := Lib.hid (num_step l k hlen h9 HB.out)
        go_wp2
        go_round
        case rel => exact ⟨k + 1, by omega, by omega, by go_num, by rw [HE.out]⟩
        case measure => simp [intOf]; omega
      · obtain rfl : k = lead l := by omega
        by_cases hlen : lead l < l.length
        · obtain ⟨ad', e, hc⟩ := H2.out.2 _ hlen
          injection e with e
          subst e
          have h127 := lead_stop l hlen
          obtain ⟨hb0, hb1⟩ := HB.out.get _ hlen
          have hn9 : ¬ 9 ≤ lead l := by omega
          have hnl : ¬ lead l = l.length := by omega
          have heq : ((lead l : Int) == 9) = false := beq_eq_false_iff_ne.2 (by omega)
          by_cases h0 : 0 < lead l ∧ l[lead l] = 0
          · have HV : Hid (numV l 0 = 0 ∧ numE l 0 = 4 ∧ numS l 0 = l) := by
              have e0 : l.getD (lead l) 0 = 0 := by rw [List.getD, List.getElem?_eq_getElem hlen]; exact h0.2
              refine ⟨?_, ?_, ?_⟩
              · unfold numV; rw [if_neg (by simp), if_neg hn9, if_neg hnl, if_pos ⟨h0.1, e0⟩]
              · unfold numE; rw [if_neg (by simp), if_neg hn9, if_neg hnl, if_pos ⟨h0.1, e0⟩]
              · unfold numS; rw [if_neg (by simp), if_neg hn9, if_neg hnl, if_pos ⟨h0.1, e0⟩]
            obtain ⟨h00, h01⟩ := h0
            have hz : (l[lead l] == 0) = true := by rw [h01]; rfl
            have HZ := Lib.hid h01
            clear h01 hn9 hnl
            go_wp2_with fail
            refine (fail_any H.out 4).mono ?_
            rintro e w2 ⟨rfl, h2, hg⟩
            have H2' := Lib.hid h2
            have HG := Lib.hid hg
            clear h2 hg H H2
            go_wp2
            go_ret
            exact ⟨by rw [HV.out.1]; rfl, by rw [HV.out.2.1, HV.out.2.2]; exact H2'.out, HG.out⟩
          · have HV : Hid (numV l 0 = valL (l.take (lead l + 1)) ∧ numE l 0 = 0 ∧ numS l 0 = l.drop (lead l + 1)) := by
              have e0 : ¬ (0 < lead l ∧ l.getD (lead l) 0 = 0) := by rw [List.getD, List.getElem?_eq_getElem hlen]; exact h0
              refine ⟨?_, ?_, ?_⟩
              · unfold numV; rw [if_neg (by simp), if_neg hn9, if_neg hnl, if_neg e0]
              · unfold numE; rw [if_neg (by simp), if_neg hn9, if_neg hnl, if_neg e0]
              · unfold numS; rw [if_neg (by simp), if_neg hn9, if_neg hnl, if_neg e0]
            have HT : Hid (Calls Try.prog 59 #[.pointer (some ⟨b, 0, none⟩), .int .i64 ((lead l : Int) + 1)] w1 fun e w' => ∃ ad, e = .returned (.slice (some ad) (lead l + 1) (lead l + 1)) ∧ Row w' .u8 (some ad) (l.take (lead l + 1)) ∧ Rd T far w' b (l.drop (lead l + 1)) 0 ∧ w1.grownBy w' (some b)) := take_yes H.out (lead l + 1) (by omega)
            have HE := Lib.hid (num_last l _ hlen h9 HB.out h127)
            have hz : 0 < lead l → (l[lead l] == 0) = false := fun h => beq_eq_false_iff_ne.2 (fun e => h0 ⟨h, e⟩)
            clear h0 hn9 hnl
            by_cases hp : 0 < lead l
            · have hz' := hz hp
              clear hz
              go_wp2_with fail
              refine HT.out.mono ?_
              rintro e w2 ⟨ad2, rfl, hrow, h2, hg⟩
              have H2' := Lib.hid h2
              have HG := Lib.hid hg
              obtain ⟨ad3, e, hc2⟩ := hrow.2 (lead l) (by simp; omega)
              injection e with e
              subst e
              rw [List.getElem_take] at hc2
              clear h2 hg H H2 hrow HT hc c0 c1
              go_wp2
              go_ret
              exact ⟨by rw [HV.out.1, ← HE.out]; rfl, by rw [HV.out.2.1, HV.out.2.2]; exact H2'.out, HG.out⟩
            · clear hz
              go_wp2_with fail
              refine HT.out.mono ?_
              rintro e w2 ⟨ad2, rfl, hrow, h2, hg⟩
              have H2' := Lib.hid h2
              have HG := Lib.hid hg
              obtain ⟨ad3, e, hc2⟩ := hrow.2 (lead l) (by simp; omega)
              injection e with e
              subst e
              rw [List.getElem_take] at hc2
              clear h2 hg H H2 hrow HT hc c0 c1
              go_wp2
              go_ret
              exact ⟨by rw [HV.out.1, ← HE.out]; rfl, by rw [HV.out.2.1, HV.out.2.2]; exact H2'.out, HG.out⟩
        · have hnl : lead l = l.length := by have := HL.out; omega
          have HV : Hid (numV l 0 = 0 ∧ numE l 0 = 5 ∧ numS l 0 = l) := by
            have hn9 : ¬ 9 ≤ lead l := by omega
            refine ⟨?_, ?_, ?_⟩
            · unfold numV; rw [if_neg (by simp), if_neg hn9, if_pos hnl]
            · unfold numE; rw [if_neg (by simp), if_neg hn9, if_pos hnl]
            · unfold numS; rw [if_neg (by simp), if_neg hn9, if_pos hnl]
          have hge : l.length ≤ lead l := by omega
          have heq : ((lead l : Int) == 9) = false := beq_eq_false_iff_ne.2 (by omega)
          have heq2 : ((lead l : Int) == l.length) = true := beq_iff_eq.2 (by omega)
          clear hnl hlen hlt
          go_wp2_with fail
          refine (fail_any H.out 5).mono ?_
          rintro e w2 ⟨rfl, h2, hg⟩
          have H2' := Lib.hid h2
          have HG := Lib.hid hg
          clear h2 hg H H2
          go_wp2
          go_ret
          exact ⟨by rw [HV.out.1]; rfl, by rw [HV.out.2.1, HV.out.2.2]; exact H2'.out, HG.out⟩
    · obtain rfl : k = 9 := by omega
      have HV : Hid (numV l 0 = 0 ∧ numE l 0 = 4 ∧ numS l 0 = l) := by
        refine ⟨?_, ?_, ?_⟩
        · unfold numV; rw [if_neg (by simp), if_pos hk]
        · unfold numE; rw [if_neg (by simp), if_pos hk]
        · unfold numS; rw [if_neg (by simp), if_pos hk]
      go_wp2_with fail
      refine (fail_any H.out 4).mono ?_
      rintro e w2 ⟨rfl, h2, hg⟩
      have H2' := Lib.hid h2
      have HG := Lib.hid hg
      clear h2 hg H H2
      go_wp2
      go_ret
      exact ⟨by rw [HV.out.1]; rfl, by rw [HV.out.2.1, HV.out.2.2]; exact H2'.out, HG.out⟩
set_option maxHeartbeats 400000 in
theorem numR_err {T : TypeId} {far : List Nat} {w : World} {b : Nat} {l : List Int} {e : Int} (h : Rd T far w b l e) (he : e ≠ 0) : Calls Try.prog 39 #[.pointer (some ⟨b, 0, none⟩)] w fun e' w' => e' = .returned (.int .i64 0) ∧ w' = w := by
  have HK := Lib.hid (ok_err h true he)
  clear h he
  go_enter Try.func39, Try.ntmps39
  go_wp2_with fail
  refine HK.out.mono ?_
  rintro e w1 ⟨rfl, rfl⟩
  go_wp2
  go_ret
  exact ⟨rfl, rfl⟩
theorem num_all {T : TypeId} {far : List Nat} {w : World} {b : Nat} {l : List Int} {e : Int} (h : Rd T far w b l e) : Calls Try.prog 39 #[.pointer (some ⟨b, 0, none⟩)] w fun e' w' => e' = .returned (.int .i64 (numV l e)) ∧ Rd T far w' b (numS l e) (numE l e) ∧ w.grownBy w' (some b) := by
  by_cases he : e = 0
  · subst he; exact numR_any h
  · refine (numR_err h he).mono fun e' w' ⟨h1, h2⟩ => ?_
    subst h2
    refine ⟨?_, ?_, grown_refl _ _⟩
    · unfold numV; rw [if_pos he]; exact h1
    · unfold numS numE; rw [if_pos he, if_pos he]; exact h
end Go.Proofs.Ytlndlcdamimbdaa
