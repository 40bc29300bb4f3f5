/- The walk of the law BudgetTakes. -/
import Derived.Test.YtlndlcdamimbdaaBudgetLive
import Derived.Deep.RegionHeld3
namespace Go.Proofs.Ytlndlcdamimbdaa
open Go.RowKit

/-- What is left of n when k were taken. -/
def leftF (n : Int) (k : Nat) : Int := if n < 0 then -1 else n - k

set_option maxHeartbeats 400000 in
theorem refLeft_any (n : Int) (k : Nat) (w : World) (hk : k ≤ 1000) (h : 0 ≤ n → (k : Int) ≤ n) (hn : n ≤ 4611686018427387904) : Calls Try.prog 18 #[.agg #[.int .i64 n, .int .i64 k]] w fun e w' => e = .returned (.int .i64 (leftF n k)) ∧ Below w.heap.size w w' := by
  by_cases h0 : n < 0
  · have E : Hid (leftF n k = -1) := if_pos h0
    go_enter Try.func18, Try.ntmps18
    go_wp2
    go_ret
    exact ⟨by rw [E.out]; rfl, (Below.refl _ _).alloc (Nat.le_refl _) _⟩
  · have E : Hid (leftF n k = n - k) := if_neg h0
    have h2 := h (by omega)
    clear h
    go_enter Try.func18, Try.ntmps18
    go_wp2
    go_ret
    exact ⟨by rw [E.out]; rfl, (Below.refl _ _).alloc (Nat.le_refl _) _⟩

/-- A budget in block b, and the reference's in block r; nothing that stood before has turned. -/
def Two (w0 : World) (b r : Nat) (left : Int) (spent : Nat) (n : Int) (k : Nat) (w : World) : Prop :=
  Bud w b left spent none ∧ w.heap[r]? = some (.cells #[.int .i64 n, .int .i64 k] 30 (0, 0)) ∧ w0.heap.size ≤ b ∧ w0.heap.size ≤ r ∧ Below w0.heap.size w0 w
theorem Two.r0 {w0 w : World} {b r : Nat} {left : Int} {spent : Nat} {n : Int} {k : Nat} (h : Two w0 b r left spent n k w) : w.cell? ⟨r, 0, none⟩ = some (.int .i64 n) := by
  have := h.2.1; simp [World.cell?, this]
theorem Two.r1 {w0 w : World} {b r : Nat} {left : Int} {spent : Nat} {n : Int} {k : Nat} (h : Two w0 b r left spent n k w) : w.cell? ⟨r, 1, none⟩ = some (.int .i64 k) := by
  have := h.2.1; simp [World.cell?, this]
theorem Two.rf {w0 w : World} {b r : Nat} {left : Int} {spent : Nat} {n : Int} {k : Nat} (h : Two w0 b r left spent n k w) : w.frozen? ⟨r, 1, none⟩ = false := by
  have := h.2.1; simp [World.frozen?, this]
theorem Two.next {w0 w w1 : World} {b r : Nat} {left : Int} {spent : Nat} {n : Int} {k : Nat} (h : Two w0 b r left spent n k w) (hb : Below w.heap.size w w1) : Two w0 b r left spent n k w1 :=
  ⟨h.1.kept (hb.block _ h.1.lt), (hb.block _ (lt_of_block h.2.1)).trans h.2.1, h.2.2.1, h.2.2.2.1, below_step h.2.2.2.2 hb⟩
theorem Two.ne {w0 w : World} {b r : Nat} {left : Int} {spent : Nat} {n : Int} {k : Nat} (h : Two w0 b r left spent n k w) : r ≠ b := by
  intro e
  have h1 := h.2.1
  have h2 := h.1
  unfold Bud at h2
  rw [e, h2] at h1
  injection h1 with h1
  injection h1 with _ h3
  exact absurd h3 (by decide)
theorem Two.bud {w0 w w1 : World} {b r : Nat} {left left' : Int} {spent spent' : Nat} {n : Int} {k : Nat} (h : Two w0 b r left spent n k w) (h1 : Bud w1 b left' spent' none) (hg : w.grownBy w1 (some b)) : Two w0 b r left' spent' n k w1 :=
  ⟨h1, (hg.block _ (lt_of_block h.2.1) (fun e => h.ne (by injection e))).trans h.2.1, h.2.2.1, h.2.2.2.1, h.2.2.2.2.grown hg h.2.2.2.2.size (fun k hk => by injection hk with hk; have := h.2.2.1; omega)⟩
theorem Two.more {w0 w : World} {b r : Nat} {left : Int} {spent : Nat} {n : Int} {k : Nat} (h : Two w0 b r left spent n k w) : Two w0 b r left spent n (k + 1) (w.setCell ⟨r, 1, none⟩ (.int .i64 ((k : Int) + 1))) :=
  ⟨h.1.kept (Below.heap_setCell _ _ _ _ (fun e => h.ne e.symm)), Go.Joins.block_setCell h.2.1 (i := 1) _, h.2.2.1, h.2.2.2.1, h.2.2.2.2.setCell h.2.2.2.1 _⟩

theorem two_yes {w0 w : World} {b r : Nat} {left : Int} {spent : Nat} {n : Int} {k : Nat} (h : Two w0 b r left spent n k w) (h0 : left ≠ 0) (hs : spent ≤ 1000) (hl : left ≤ 4611686018427387904) :
    Calls Try.prog 19 #[.pointer (some ⟨b, 0, none⟩)] w fun e w' => e = .returned (.bool true) ∧ Two w0 b r (decB left) (spent + 1) n k w' :=
  (take_one_yes b left spent w h.1 h0 hs hl).mono fun _ _ ⟨he, h1, hg⟩ => ⟨he, h.bud h1 hg⟩
theorem two_no {w0 w : World} {b r : Nat} {spent : Nat} {n : Int} {k : Nat} (h : Two w0 b r 0 spent n k w) :
    Calls Try.prog 19 #[.pointer (some ⟨b, 0, none⟩)] w fun e w' => e = .returned (.bool false) ∧ Two w0 b r 0 spent n k w' :=
  (take_one_no b spent w h.1).mono fun _ _ ⟨he, hw⟩ => ⟨he, hw ▸ h⟩
theorem two_left {w0 w : World} {b r : Nat} {left : Int} {spent : Nat} {n : Int} {k : Nat} (h : Two w0 b r left spent n k w) :
    Calls Try.prog 20 #[.pointer (some ⟨b, 0, none⟩)] w fun e w' => e = .returned (.int .i64 left) ∧ Two w0 b r left spent n k w' :=
  (left_one b left spent w h.1).mono fun _ _ ⟨he, hw⟩ => ⟨he, hw ▸ h⟩
theorem two_spent {w0 w : World} {b r : Nat} {left : Int} {spent : Nat} {n : Int} {k : Nat} (h : Two w0 b r left spent n k w) :
    Calls Try.prog 21 #[.pointer (some ⟨b, 0, none⟩)] w fun e w' => e = .returned (.int .i64 spent) ∧ Two w0 b r left spent n k w' :=
  (spent_any b left spent none w h.1).mono fun _ _ ⟨he, hw⟩ => ⟨he, hw ▸ h⟩
theorem two_ref {w0 w : World} {b r : Nat} {left : Int} {spent : Nat} {n : Int} {k : Nat} (h : Two w0 b r left spent n k w) (hk : k ≤ 1000) (hkn : 0 ≤ n → (k : Int) ≤ n) (hn : n ≤ 4611686018427387904) :
    Calls Try.prog 18 #[.agg #[.int .i64 n, .int .i64 k]] w fun e w' => e = .returned (.int .i64 (leftF n k)) ∧ Two w0 b r left spent n k w' :=
  (refLeft_any n k w hk hkn hn).mono fun _ _ ⟨he, hb⟩ => ⟨he, h.next hb⟩
theorem two_live {w0 w : World} {b r : Nat} {left : Int} {spent : Nat} {n : Int} {k : Nat} (h : Two w0 b r left spent n k w) :
    Calls Try.prog 17 #[] w fun e w' => e = .returned (.bool true) ∧ Two w0 b r left spent n k w' :=
  (live26_any w).mono fun _ _ ⟨he, hb⟩ => ⟨he, h.next hb⟩
theorem leftF_step (n : Int) (k : Nat) (hn : -1 ≤ n) (h : 0 ≤ n → (k : Int) ≤ n) (h0 : leftF n k ≠ 0) : decB (leftF n k) = leftF n (k + 1) ∧ (0 ≤ n → ((k + 1 : Nat) : Int) ≤ n) := by
  unfold leftF at *
  unfold decB
  by_cases hneg : n < 0
  · simp only [if_pos hneg]
    exact ⟨by decide, fun h => by omega⟩
  · simp only [if_neg hneg] at *
    have := h (by omega)
    rw [if_pos (by omega)]
    exact ⟨by omega, fun _ => by omega⟩
theorem leftF_le (n : Int) (k : Nat) (hn : n ≤ 4611686018427387904) : leftF n k ≤ 4611686018427387904 := by
  unfold leftF
  split <;> omega

set_option maxRecDepth 100000 in
set_option maxHeartbeats 3200000 in
theorem takes_main (n : Int) (t : Nat) (w : World) (hn : mayB n = true) (ht : t < 65536) : Calls Try.prog 3 #[.int .i64 n, .int .u16 t] w fun e w' => e = .returned (.bool true) ∧ Below w.heap.size w w' := by
  have hb : -1 ≤ n ∧ n ≤ 4611686018427387904 := of_decide_eq_true hn
  have HB0 := Lib.hid hb
  clear hb
  go_enter Try.func3, Try.ntmps3
  go_wp2_with fail
  refine (new_yes n w hn).mono ?_
  rintro e w1 ⟨rfl, h1, b1⟩
  have H1 := Lib.hid h1
  have B1 := Lib.hid b1
  clear h1 b1
  go_wp2_with fail
  refine (refMay_any n w1).mono ?_
  rintro e w2 ⟨rfl, rfl⟩
  go_wp2_with fail
  refine (may_any n w2).mono ?_
  rintro e w3 ⟨rfl, rfl⟩
  go_wp2
  have HT : Hid (Two w w.heap.size w3.heap.size (leftF n 0) 0 n 0 (w3.alloc (.cells #[.int .i64 n, .int .i64 0] 30))) := by
    have hl : leftF n 0 = n := by
      have := HB0.out
      unfold leftF
      by_cases h : n < 0
      · rw [if_pos h]; omega
      · rw [if_neg h]; simp
    rw [hl]
    exact ⟨H1.out.kept (Below.heap_alloc _ _ _ H1.out.lt), heap_alloc_new _ _, Nat.le_refl _, B1.out.size, B1.out.alloc B1.out.size _⟩
  generalize w3.heap.size = r at *
  go_loopw [8] (fun v wr => ∃ i k : Nat, k ≤ i ∧ i ≤ 300 ∧ v = .int .i64 i ∧ Hid (0 ≤ n → (k : Int) ≤ n) ∧ Hid (Two w w.heap.size r (leftF n k) k n k wr)) (fun v _ => 300 - (intOf v).toNat)
  case atStart => exact ⟨0, 0, by omega, by omega, rfl, fun h => by omega, HT⟩
  case round =>
    clear HT H1 B1
    obtain ⟨i, k, hki, hi, rfl, HKN, HT⟩ := hrel
    by_cases hlt : i < t ∧ i < 300
    · obtain ⟨hl1, hl2⟩ := hlt
      have hr0 := HT.out.r0
      have hr1 := HT.out.r1
      by_cases h0 : leftF n k = 0
      · have hd : (leftF n k != 0) = false := by rw [h0]; rfl
        go_wp2_with fail
        refine (two_ref HT.out (by omega) HKN.out HB0.out.2).mono ?_
        rintro e w4 ⟨rfl, hst⟩
        rw [h0] at hst
        have hr0 := hst.r0
        have hr1 := hst.r1
        have hst0 := hst.next (Below.refl _ _).drew
        have HST := Lib.hid hst0
        clear hst hst0
        go_wp2_with fail
        go_region_held3 (fun w' => w'.cell? ⟨r, 0, none⟩ = some (.int .i64 n) ∧ w'.cell? ⟨r, 1, none⟩ = some (.int .i64 k)) (first | exact ⟨hst.r0, hst.r1⟩ | exact ⟨HST.out.r0, HST.out.r1⟩) (first
          | (go_at_call 19; refine (two_no HST.out).mono ?_; rintro e w' ⟨rfl, hst⟩)
          | (go_at_call 20; refine (two_left hst).mono ?_; rintro e w' ⟨rfl, hst⟩)
          | (go_at_call 18; refine (two_ref hst (by omega) HKN.out HB0.out.2).mono ?_; rintro e w' ⟨rfl, hst⟩)
          | (go_at_call 21; refine (two_spent hst).mono ?_; rintro e w' ⟨rfl, hst⟩))
        have HS2 := Lib.hid hst
        clear hst hr0 hr1
        go_wp2
        go_roundw
        case rel => exact ⟨i + 1, k, by omega, by omega, by go_num, HKN, by rw [h0]; exact HS2⟩
        case measure => simp [intOf]; omega
      · have hd : (leftF n k != 0) = true := by simpa using h0
        have HL := Lib.hid (leftF_step n k HB0.out.1 HKN.out h0)
        have HH0 := Lib.hid h0
        have HLE := Lib.hid (leftF_le n k HB0.out.2)
        clear h0
        go_wp2_with fail
        refine (two_ref HT.out (by omega) HKN.out HB0.out.2).mono ?_
        rintro e w4 ⟨rfl, hst⟩
        have hr0 := hst.r0
        have hr1 := hst.r1
        have hrf := hst.rf
        have HST := Lib.hid hst.more
        clear hst
        go_wp2_with fail
        have HSX := Lib.hid (HST.out.next (Below.refl _ _).drew)
        clear HST hr0 hr1 hrf
        obtain ⟨k', HK'⟩ : ∃ k' : Nat, Hid (k' = k + 1) := ⟨_, rfl⟩
        have HST := HSX
        rw [← HK'.out] at HST
        have HLK : Hid (decB (leftF n k) = leftF n k') := by rw [HK'.out]; exact HL.out.1
        have HKN' : Hid (0 ≤ n → (k' : Int) ≤ n) := by rw [HK'.out]; exact HL.out.2
        have hk' : k' ≤ i + 1 := by have := HK'.out; omega
        clear HSX HL
        have HY : Hid (∀ W : World, Two w w.heap.size r (leftF n k) k n k' W → Calls Try.prog 19 #[.pointer (some ⟨w.heap.size, 0, none⟩)] W fun e w' => e = .returned (.bool true) ∧ Two w w.heap.size r (leftF n k') k' n k' w') := by
          intro W h
          have := two_yes h HH0.out (by omega) HLE.out
          rw [HLK.out, ← HK'.out] at this
          exact this
        go_region_held3 (fun w' => w'.cell? ⟨r, 0, none⟩ = some (.int .i64 n) ∧ w'.cell? ⟨r, 1, none⟩ = some (.int .i64 k')) (first | exact ⟨hst.r0, hst.r1⟩ | exact ⟨HST.out.r0, HST.out.r1⟩) (first
          | (go_at_call 19; refine (HY.out _ HST.out).mono ?_; rintro e w' ⟨rfl, hst⟩)
          | (go_at_call 20; refine (two_left hst).mono ?_; rintro e w' ⟨rfl, hst⟩)
          | (go_at_call 18; refine (two_ref hst (by omega) HKN'.out HB0.out.2).mono ?_; rintro e w' ⟨rfl, hst⟩)
          | (go_at_call 21; refine (two_spent hst).mono ?_; rintro e w' ⟨rfl, hst⟩))
        have HS2 := Lib.hid hst
        clear hst
        go_wp2
        go_roundw
        case rel => exact ⟨i + 1, k', hk', by omega, by go_num, HKN', HS2⟩
        case measure => simp [intOf]; omega
    · by_cases hl1 : i < t
      · obtain rfl : i = 300 := by omega
        clear hlt
        have HSX := Lib.hid (HT.out.next (Below.refl _ _).drew)
        clear HT
        go_wp2_with fail
        go_region_held3 (fun w' => w'.cell? ⟨r, 0, none⟩ = some (.int .i64 n) ∧ w'.cell? ⟨r, 1, none⟩ = some (.int .i64 k)) (first | exact ⟨hst.r0, hst.r1⟩ | exact ⟨HSX.out.r0, HSX.out.r1⟩) (first
          | (go_at_call 17; refine (two_live HSX.out).mono ?_; rintro e w' ⟨rfl, hst⟩)
          | (go_at_call 20; refine (two_left hst).mono ?_; rintro e w' ⟨rfl, hst⟩)
          | (go_at_call 18; refine (two_ref hst (by omega) HKN.out HB0.out.2).mono ?_; rintro e w' ⟨rfl, hst⟩))
        have HS2 := Lib.hid hst
        clear hst
        go_wp2
        go_ret
        exact ⟨rfl, HS2.out.2.2.2.2⟩
      · clear hlt
        have HSX := Lib.hid (HT.out.next (Below.refl _ _).drew)
        clear HT
        go_wp2_with fail
        go_region_held3 (fun w' => w'.cell? ⟨r, 0, none⟩ = some (.int .i64 n) ∧ w'.cell? ⟨r, 1, none⟩ = some (.int .i64 k)) (first | exact ⟨hst.r0, hst.r1⟩ | exact ⟨HSX.out.r0, HSX.out.r1⟩) (first
          | (go_at_call 17; refine (two_live HSX.out).mono ?_; rintro e w' ⟨rfl, hst⟩)
          | (go_at_call 20; refine (two_left hst).mono ?_; rintro e w' ⟨rfl, hst⟩)
          | (go_at_call 18; refine (two_ref hst (by omega) HKN.out HB0.out.2).mono ?_; rintro e w' ⟨rfl, hst⟩))
        have HS2 := Lib.hid hst
        clear hst
        go_wp2
        go_ret
        exact ⟨rfl, HS2.out.2.2.2.2⟩

set_option maxRecDepth 100000 in
set_option maxHeartbeats 800000 in
theorem takes_no (n : Int) (t : Int) (w : World) (hn : mayB n = false) : Calls Try.prog 3 #[.int .i64 n, .int .u16 t] w fun e w' => e = .returned (.bool true) ∧ Below w.heap.size w w' := by
  go_enter Try.func3, Try.ntmps3
  go_wp2_with fail
  refine (new_no n w hn).mono ?_
  rintro e w1 ⟨rfl, rfl⟩
  go_wp2_with fail
  refine (refMay_any n w1).mono ?_
  rintro e w2 ⟨rfl, rfl⟩
  go_wp2_with fail
  refine (live26_any w2).mono ?_
  rintro e w3 ⟨rfl, hb⟩
  have HB := Lib.hid hb
  clear hb
  go_wp2_with fail
  refine (refMay_any n w3).mono ?_
  rintro e w4 ⟨rfl, rfl⟩
  go_wp2_with fail
  refine (may_any n w4).mono ?_
  rintro e w5 ⟨rfl, rfl⟩
  go_wp2
  go_ret
  exact ⟨rfl, HB.out⟩
theorem budgetTakes_walk (n t : Int) (w : World) (ht : (Lit.int .u16 t).wf = true) : Calls Try.prog 3 #[.int .i64 n, .int .u16 t] w fun e w' => e = .returned (.bool true) ∧ Below w.heap.size w w' := by
  cases hn : mayB n with
  | false => exact takes_no n t w hn
  | true =>
    have e1 : IntKind.u16.min = 0 := by decide
    have e2 : IntKind.u16.max = 65535 := by decide
    simp [Lit.wf, e1, e2] at ht
    obtain ⟨m, rfl⟩ := Int.eq_ofNat_of_zero_le ht.1
    exact takes_main n m w hn (by omega)
end Go.Proofs.Ytlndlcdamimbdaa
