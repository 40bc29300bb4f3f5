/- The walks of Num, a number's short form: bin's and the reference's. -/
import Derived.Test.YtlndlcdamimbdaaRdOps
namespace Go.Proofs.Ytlndlcdamimbdaa
open Go.RowKit

theorem or128 : ∀ x, x < 256 → x ||| 128 = 128 + x % 128 := by decide +kernel
theorem byte_or (q : Nat) : bits BinOp.or IntKind.u8 ((q : Int) % 256) 128 = ((128 + q % 128 : Nat) : Int) := by
  have e : ((q : Int) % 256) = ((q % 256 : Nat) : Int) := by omega
  have h := u8_or_nat (q % 256) 128 (by omega) (by omega)
  rw [e]
  rw [or128 _ (by omega)] at h
  have e2 : 128 + q % 256 % 128 = 128 + q % 128 := by omega
  rw [e2] at h
  exact h

set_option maxHeartbeats 800000 in
theorem num_neg (n : Int) (w : World) (h : n < 0) : Calls Try.prog 34 #[.int .i64 n] w fun e w' => e = .returned (.slice none 0 0) ∧ w' = w := by
  go_enter Try.func34, Try.ntmps34
  go_wp2
  go_ret
  exact ⟨rfl, rfl⟩
set_option maxHeartbeats 1600000 in
theorem num_yes (n : Nat) (w : World) (h : n < 9223372036854775808) : Calls Try.prog 34 #[.int .i64 n] w fun e w' => ∃ g cp, w.heap.size ≤ g ∧ e = .returned (.slice (some ⟨g, 0, none⟩) (numL n).length cp) ∧ OwnRow w' 5 .u8 g cp (numL n) ∧ Below w.heap.size w w' := by
  have HN := Lib.hid (numL_len 8 n (by omega))
  go_enter Try.func34, Try.ntmps34
  go_wp2
  go_loopw [0, 3] (fun v0 v3 wr => ∃ (q g cp m : Nat) (pre : List Int), v0 = .int .i64 q ∧ q < 9223372036854775808 ∧ v3 = .slice (some ⟨g, 0, none⟩) m cp ∧ m ≤ 8 ∧ w.heap.size ≤ g ∧ Hid (pre.length = m) ∧ Hid (OwnRow wr 5 .u8 g cp pre) ∧ Hid (pre ++ numL q = numL n) ∧ Below w.heap.size w wr) (fun v _ _ => (intOf v).toNat)
  case atStart => exact ⟨n, w.heap.size, 0, 0, [], rfl, h, rfl, by omega, Nat.le_refl _, Lib.hid rfl, Lib.hid (own_none w), Lib.hid rfl, (Below.refl _ w).alloc (Nat.le_refl _) _⟩
  case round =>
    obtain ⟨q, g, cp, m, pre, rfl, hq, rfl, hm, hg, HPL, HO, HP, hb⟩ := hrel
    have hlt := HO.out.lt
    have hsz := hb.size
    by_cases hbig : 127 < q
    · go_wp2_with (first
        | (at_builtin; refine append_bytes_any rfl (.tmp 11) (.tmp 15) rfl w.heap.size g cp m 1 (m + 1) pre [bits BinOp.or IntKind.u8 ((q : Int) % 256) 128] HPL.out rfl rfl rfl (HO.out.alloc _) hg (by (try simp); omega) (some ⟨wr.heap.size, 0, none⟩) 1 rfl (Row.new wr .u8 [_] 5 (0, 0) (by simp)) (fun e => by cases e) (by omega) ?_; intro g2 cp2 w2 hown2 hg2 hgrow2
           have HO2 := Lib.hid hown2
           have HB2 := Lib.hid (Below.grown (hb.alloc hsz _) hgrow2 (by (try simp); omega) (by intro r hr; simp at hr; omega))
           clear hown2 hgrow2))
      have HQ := Lib.hid (numL_big q (by omega))
      have HE := Lib.hid (byte_or q)
      go_roundw
      case rel =>
        refine ⟨q / 128, g2, cp2, m + 1, pre ++ [((128 + q % 128 : Nat) : Int)], by simp, by omega, rfl, ?_, hg2, Lib.hid (by rw [List.length_append, HPL.out]; rfl), Lib.hid (by rw [← HE.out]; exact HO2.out), Lib.hid ?_, HB2.out⟩
        · have h1 := HN.out
          have h2 := numL_pos (q / 128)
          rw [← HP.out, HQ.out, List.length_append, List.length_cons, HPL.out] at h1
          omega
        · rw [← HP.out, HQ.out, List.append_assoc]; rfl
      case measure => simp [intOf]; omega
    · have HQ := Lib.hid (numL_small q (by omega))
      go_wp2_with (first
        | (at_builtin; refine append_bytes_any rfl (.tmp 17) (.tmp 20) rfl w.heap.size g cp m 1 (m + 1) pre [(q : Int)] HPL.out rfl rfl rfl (HO.out.alloc _) hg (by (try simp); omega) (some ⟨wr.heap.size, 0, none⟩) 1 rfl (Row.new wr .u8 [_] 5 (0, 0) (by simp)) (fun e => by cases e) (by omega) ?_; intro g2 cp2 w2 hown2 hg2 hgrow2
           have HO2 := Lib.hid hown2
           have HB2 := Lib.hid (Below.grown (hb.alloc hsz _) hgrow2 (by (try simp); omega) (by intro r hr; simp at hr; omega))
           clear hown2 hgrow2))
      go_ret
      have e1 : pre ++ [(q : Int)] = numL n := by rw [← HP.out, HQ.out]
      refine ⟨g2, cp2, hg2, ?_, by rw [← e1]; exact HO2.out, HB2.out⟩
      rw [← e1, List.length_append, HPL.out]
      rfl
theorem own_one (w : World) (x : Int) : OwnRow (w.alloc (.cells #[.int .u8 x] 5)) 5 .u8 w.heap.size 1 [x] := ⟨_, heap_alloc_new w _, Nat.le_refl _, by decide, rfl, rfl⟩
set_option maxHeartbeats 800000 in
theorem refNum_neg (n : Int) (w : World) (h : n < 0) : Calls Try.prog 35 #[.int .i64 n] w fun e w' => e = .returned (.slice none 0 0) ∧ w' = w := by
  go_enter Try.func35, Try.ntmps35
  go_wp2
  go_ret
  exact ⟨rfl, rfl⟩
set_option maxRecDepth 100000 in
set_option maxHeartbeats 1600000 in
theorem refNum_fuel (k : Nat) : ∀ (n : Nat) (w : World), n < 128 ^ (k + 1) → n < 9223372036854775808 → k ≤ 8 → Calls Try.prog 35 #[.int .i64 n] w fun e w' => ∃ g cp, w.heap.size ≤ g ∧ e = .returned (.slice (some ⟨g, 0, none⟩) (numL n).length cp) ∧ OwnRow w' 5 .u8 g cp (numL n) ∧ Below w.heap.size w w' := by
  induction k with
  | zero =>
    intro n w hn h63 _
    have h128 : n < 128 := by simpa using hn
    have HQ := Lib.hid (numL_small n h128)
    clear hn
    go_enter Try.func35, Try.ntmps35
    go_wp2_with fail
    go_ret
    exact ⟨w.heap.size, 1, Nat.le_refl _, by rw [HQ.out]; rfl, by rw [HQ.out]; exact own_one w _, (Below.refl _ w).alloc (Nat.le_refl _) _⟩
  | succ k ih =>
    intro n w hn h63 hk
    by_cases h128 : n < 128
    · have HQ := Lib.hid (numL_small n h128)
      clear hn ih
      go_enter Try.func35, Try.ntmps35
      go_wp2_with fail
      go_ret
      exact ⟨w.heap.size, 1, Nat.le_refl _, by rw [HQ.out]; rfl, by rw [HQ.out]; exact own_one w _, (Below.refl _ w).alloc (Nat.le_refl _) _⟩
    · have HQ := Lib.hid (numL_big n h128)
      have HLEN := Lib.hid (numL_len 8 n (by omega))
      have hlt : n / 128 < 128 ^ (k + 1) := by
        rw [Nat.pow_succ] at hn
        exact Nat.div_lt_of_lt_mul (by rw [Nat.mul_comm]; exact hn)
      have HI : Hid (∀ w : World, Calls Try.prog 35 #[.int .i64 ((n : Int) / 128)] w fun e w' => ∃ g cp, w.heap.size ≤ g ∧ e = .returned (.slice (some ⟨g, 0, none⟩) (numL (n / 128)).length cp) ∧ OwnRow w' 5 .u8 g cp (numL (n / 128)) ∧ Below w.heap.size w w') := fun w => ih (n / 128) w hlt (by omega) (by omega)
      have hx : (numL (n / 128)).length ≤ 8 := by have := HLEN.out; rw [HQ.out] at this; simp at this; omega
      clear hn ih hlt
      go_enter Try.func35, Try.ntmps35
      go_wp2_with fail
      refine (HI.out _).mono ?_
      rintro e w2 ⟨g2, cp2, hg2, rfl, hown, hb⟩
      have HO1 := Lib.hid ((own_one w ((128 + n % 128 : Nat) : Int)).below hb)
      have HO2 := Lib.hid hown
      have HB := Lib.hid (below_via hb ((Below.refl _ w).alloc (Nat.le_refl _) _))
      have hs := hb.size
      have hs2 : w.heap.size + 1 ≤ w2.heap.size := by simpa using hs
      clear hown hb HI hs
      go_wp2_with (first
        | (at_builtin; refine append_bytes_any rfl (.tmp 14) (.tmp 17) rfl w.heap.size w.heap.size 1 1 (numL (n / 128)).length (1 + (numL (n / 128)).length) [((128 + n % 128 : Nat) : Int)] (numL (n / 128)) rfl rfl rfl rfl HO1.out (Nat.le_refl _) (by omega) (some ⟨g2, 0, none⟩) cp2 rfl HO2.out.row (fun e => by cases e) (by omega) ?_; intro g3 cp3 w3 hown3 hg3 hgrow3
           have HO3 := Lib.hid hown3
           have HB3 := Lib.hid (Below.grown HB.out hgrow3 (by omega) (by intro r hr; simp at hr; omega))
           clear hown3 hgrow3))
      go_ret
      refine ⟨g3, cp3, hg3, ?_, by rw [HQ.out]; exact HO3.out, HB3.out⟩
      rw [HQ.out, List.length_cons, Nat.add_comm]
      rfl
theorem refNum_yes (n : Nat) (w : World) (h : n < 9223372036854775808) : Calls Try.prog 35 #[.int .i64 n] w fun e w' => ∃ g cp, w.heap.size ≤ g ∧ e = .returned (.slice (some ⟨g, 0, none⟩) (numL n).length cp) ∧ OwnRow w' 5 .u8 g cp (numL n) ∧ Below w.heap.size w w' :=
  refNum_fuel 8 n w (by omega) h (by omega)
end Go.Proofs.Ytlndlcdamimbdaa
