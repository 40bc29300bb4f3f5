/- The walk of the law MixSpread. -/
import Derived.Test.YtcpicgjelohhlaaSpread
namespace Go.Proofs.Ytcpicgjelohhlaa
open Go.RowKit

def sumTo (m : Nat) (l : List (Nat × Nat)) : Nat → Nat
  | 0 => 0
  | i + 1 => sumTo m l i + cntF m l i
theorem sumTo_eq (m : Nat) (l : List (Nat × Nat)) : ∀ i, sumTo m l i = (l.filter fun p => decide (mixF p.1 p.2 % m < i)).length
  | 0 => by
    have : ∀ l : List (Nat × Nat), (l.filter fun p => decide (mixF p.1 p.2 % m < 0)) = [] := fun l => by
      apply List.filter_eq_nil_iff.2
      intro p _
      simp
    rw [this]; rfl
  | i + 1 => by
    rw [sumTo, sumTo_eq m l i]
    unfold cntF
    induction l with
    | nil => rfl
    | cons p l ih =>
      simp only [List.filter_cons]
      by_cases h1 : mixF p.1 p.2 % m < i
      · have h2 : ¬ (mixF p.1 p.2 % m = i) := by omega
        have h3 : mixF p.1 p.2 % m < i + 1 := by omega
        simp [h1, h2, h3] at ih ⊢; omega
      · by_cases h2 : mixF p.1 p.2 % m = i
        · have h3 : mixF p.1 p.2 % m < i + 1 := by omega
          simp [h2] at ih ⊢; omega
        · have h3 : ¬ (mixF p.1 p.2 % m < i + 1) := by omega
          simp [h1, h2, h3] at ih ⊢; omega
theorem sumTo_all (m : Nat) (hm : 0 < m) (l : List (Nat × Nat)) : sumTo m l m = l.length := by
  rw [sumTo_eq]
  congr 1
  apply List.filter_eq_self.2
  intro p _
  exact decide_eq_true (Nat.mod_lt _ hm)
theorem sumTo_le (m : Nat) (l : List (Nat × Nat)) (i : Nat) : sumTo m l i ≤ l.length := by
  rw [sumTo_eq]; exact List.length_filter_le _ _

set_option maxHeartbeats 400000 in
theorem spread_none (n : Int) (A : Option Addr) (len cap : Nat) (w : World) (h : n < 1) :
    Calls Try.prog 21 #[.int .i64 n, .slice A len cap] w fun e w' => e = .returned (.slice none 0 0) ∧ w' = w := by
  have hd : mayF n = false := decide_eq_false (by omega)
  clear h
  go_enter Try.func21, Try.ntmps21
  go_wp2_with (go_at_call 28; refine (mayM_any _ _).mono ?_; rintro e w ⟨rfl, rfl⟩)
  go_ret
  exact ⟨rfl, rfl⟩

set_option maxHeartbeats 400000 in
theorem mixSpread_far (n : Int) (A : Option Addr) (len cap : Nat) (w : World) (h : 300 < n ∨ 200 < len) (hm : len ≤ 9223372036854775807) :
    Calls Try.prog 7 #[.int .i64 n, .slice A len cap] w fun e w' => e = .returned (.bool true) ∧ Below w.heap.size w w' := by
  by_cases h1 : 300 < n
  · clear h
    go_enter Try.func7, Try.ntmps7
    go_wp2_with fail
    refine (live21_any _).mono ?_
    rintro e w1 ⟨rfl, hb⟩
    have HB := Lib.hid hb; clear hb
    go_wp2
    go_ret
    exact ⟨rfl, HB⟩
  · have h2 : 200 < len := by omega
    clear h
    go_enter Try.func7, Try.ntmps7
    go_wp2_with fail
    refine (live21_any _).mono ?_
    rintro e w1 ⟨rfl, hb⟩
    have HB := Lib.hid hb; clear hb
    go_wp2
    go_ret
    exact ⟨rfl, HB⟩

set_option maxHeartbeats 400000 in
theorem mixSpread_low (n : Int) (A : Option Addr) (len cap : Nat) (w : World) (h : n < 1) (hm : len ≤ 200) :
    Calls Try.prog 7 #[.int .i64 n, .slice A len cap] w fun e w' => e = .returned (.bool true) ∧ Below w.heap.size w w' := by
  go_enter Try.func7, Try.ntmps7
  go_wp2_with fail
  refine (spread_none n A len cap w h).mono ?_
  rintro e w1 ⟨rfl, rfl⟩
  go_wp2_with fail
  refine (live21_any _).mono ?_
  rintro e w2 ⟨rfl, hb⟩
  have HB := Lib.hid hb; clear hb
  go_wp2
  go_ret
  exact ⟨rfl, HB⟩

/-- The reference's bucket, under a name. -/
theorem refBucketM_named (hi lo m : Nat) (w : World) (h1 : 1 ≤ m) (h2 : m ≤ 300) (hh : hi < 18446744073709551616) (hl : lo < 18446744073709551616) :
    Calls Try.prog 20 #[.agg #[.int .u64 hi, .int .u64 lo], .int .i64 m] w fun e w' => ∃ j : Nat, e = .returned (.int .i64 j) ∧ j < m ∧ Hid (mixF hi lo % m = j) ∧ Below w.heap.size w w' := by
  refine (refBucketM_any hi lo m w hh hl).mono ?_
  rintro e w' ⟨rfl, hb⟩
  refine ⟨mixF hi lo % m, ?_, Nat.mod_lt _ (by omega), rfl, hb⟩
  unfold bucketF
  rw [if_pos ⟨by omega, by omega⟩, Int.toNat_natCast]

set_option maxHeartbeats 1600000 in
theorem mixSpread_main (m : Nat) (A : Option Addr) (cap : Nat) (l : List (Nat × Nat)) (w : World) (h1 : 1 ≤ m) (h2 : m ≤ 300) (hmx : l.length ≤ 200) (hw : ∀ p ∈ l, p.1 < 18446744073709551616 ∧ p.2 < 18446744073709551616) (hr : Wides w A l) :
    Calls Try.prog 7 #[.int .i64 m, .slice A l.length cap] w fun e w' => e = .returned (.bool true) ∧ Below w.heap.size w w' := by
  have HR := Lib.hid hr
  have HW := Lib.hid hw
  clear hr hw
  go_enter Try.func7, Try.ntmps7
  go_wp2_with fail
  refine (spread_any m A cap l w h1 h2 hmx HW.out HR.out).mono ?_
  rintro e w1 ⟨g, rfl, hv, hb⟩
  have HV := Lib.hid hv
  have HB := Lib.hid hb
  clear hv hb
  go_wp2
  go_loopw [6, 7] (fun v6 v7 wr => ∃ i : Nat, i ≤ m ∧ v7 = .int .i64 i ∧ v6 = .int .i64 (sumTo m l i) ∧ Hid (OwnRow wr 3 .i64 g m (cnts m l)) ∧ Hid (Below w.heap.size w wr)) (fun _ v _ => m - (intOf v).toNat)
  case atStart => exact ⟨0, by omega, rfl, rfl, HV, HB⟩
  case round =>
    clear HV HB
    obtain ⟨i, hi, rfl, rfl, HV, HB⟩ := hrel
    have HS : Hid (sumTo m l (i + 1) = sumTo m l i + cntF m l i) := rfl
    have HL : Hid (sumTo m l i ≤ 200) := Nat.le_trans (sumTo_le m l i) hmx
    have HZ : Hid (i = m → sumTo m l i = l.length) := fun e => by subst e; exact sumTo_all i (by omega) l
    generalize sumTo m l i = s at *
    by_cases hlt : i < m
    · go_wp2
      go_loopw [8, 9] (fun v8 v9 wr => ∃ k : Nat, k ≤ l.length ∧ v9 = .int .i64 k ∧ (∃ c : Nat, v8 = .int .i64 c ∧ Hid (c = cntF m (l.take k) i)) ∧ Hid (OwnRow wr 3 .i64 g m (cnts m l)) ∧ Hid (Below w.heap.size w wr)) (fun _ v _ => l.length - (intOf v).toNat)
      case atStart => exact ⟨0, by omega, rfl, ⟨0, rfl, rfl⟩, HV, HB⟩
      case round =>
        clear HV HB
        obtain ⟨k, hk, rfl, ⟨c, rfl, HC⟩, HV, HB⟩ := hrel
        by_cases hk2 : k < l.length
        · obtain ⟨ad, rfl, hc1, hc2⟩ := (HR.out.below HB.out).2 k hk2
          have hp := HW.out _ (List.getElem_mem hk2)
          have hcl : c ≤ 200 := by
            have := HC.out
            have h3 := cntF_le m (l.take k) i
            rw [List.length_take] at h3
            omega
          have HN : Hid (∀ j, mixF l[k].1 l[k].2 % m = j → cntF m (l.take (k + 1)) i = c + (if j = i then 1 else 0)) := by
            intro j e
            rw [cntF_take m l k hk2 i, e, HC.out]
          generalize l[k] = p at *
          obtain ⟨hi2, lo⟩ := p
          go_wp2_with fail
          refine (refBucketM_named hi2 lo m _ h1 h2 hp.1 hp.2).mono ?_
          rintro e w2 ⟨j, rfl, hj, HJ, hb⟩
          have HB2 := Lib.hid (below_step HB.out hb)
          have HV2 := Lib.hid (HV.out.below hb)
          have HN2 := Lib.hid (HN.out j HJ.out)
          clear hc1 hc2 hp hb HV HB HN HJ HC
          by_cases hji : j = i
          · have HN3 : Hid (c + 1 = cntF m (l.take (k + 1)) i) := by
              have := HN2.out
              rw [if_pos hji] at this; exact this.symm
            have he : ((j : Int) == (i : Int)) = true := beq_iff_eq.2 (by omega)
            clear hji HN2
            go_wp2
            go_roundw
            case rel => exact ⟨k + 1, by omega, by go_num, ⟨c + 1, by go_num, HN3⟩, HV2, HB2⟩
            case measure => simp [intOf]; omega
          · have HN3 : Hid (c = cntF m (l.take (k + 1)) i) := by
              have := HN2.out
              rw [if_neg hji] at this; exact this.symm
            have he : ((j : Int) == (i : Int)) = false := beq_eq_false_iff_ne.2 (by omega)
            clear hji HN2
            go_wp2
            go_roundw
            case rel => exact ⟨k + 1, by omega, by go_num, ⟨c, rfl, HN3⟩, HV2, HB2⟩
            case measure => simp [intOf]; omega
        · obtain rfl : k = l.length := by omega
          have hcell := HV.out.getElem i (by rw [cnts_length]; exact hlt)
          have hcl : c ≤ 200 := by
            have := HC.out
            have h3 := cntF_le m (l.take l.length) i
            rw [List.length_take] at h3
            omega
          rw [cnts_get] at hcell
          have HC2 : Hid (c = cntF m l i) := by have := HC.out; rw [List.take_length] at this; exact this
          rw [← HC2.out] at hcell
          have HS2 : Hid (sumTo m l (i + 1) = s + c) := by have := HS.out; rw [← HC2.out] at this; exact this
          have hsl := HL.out
          clear HC HS
          go_wp2
          go_roundw
          case rel => exact ⟨i + 1, by omega, by go_num, by rw [HS2.out]; go_num, HV, HB⟩
          case measure => simp [intOf]; omega
    · obtain rfl : i = m := by omega
      have he : ((s : Int) == (l.length : Int)) = true := beq_iff_eq.2 (by rw [HZ.out rfl])
      have hs : s ≤ 200 := HL.out
      clear HS HL HZ HV
      go_wp2_with fail
      refine (live21_any _).mono ?_
      rintro e w2 ⟨rfl, hb⟩
      have HB2 := Lib.hid (below_step HB.out hb)
      clear hb HB
      go_wp2
      go_ret
      exact ⟨rfl, HB2.out⟩


theorem mixSpread_walk (n : Int) (A : Option Addr) (cap : Nat) (l : List (Nat × Nat)) (w : World) (hw : ∀ p ∈ l, p.1 < 18446744073709551616 ∧ p.2 < 18446744073709551616) (hr : Wides w A l) :
    Calls Try.prog 7 #[.int .i64 n, .slice A l.length cap] w fun e w' => e = .returned (.bool true) ∧ Below w.heap.size w w' := by
  have hm := hr.1
  by_cases h : 300 < n ∨ 200 < l.length
  · exact mixSpread_far n A l.length cap w h (by omega)
  · by_cases h1 : n < 1
    · exact mixSpread_low n A l.length cap w h1 (by omega)
    · obtain ⟨m, rfl⟩ := Int.eq_ofNat_of_zero_le (show 0 ≤ n by omega)
      exact mixSpread_main m A cap l w (by omega) (by omega) (by omega) hw hr
end Go.Proofs.Ytcpicgjelohhlaa
