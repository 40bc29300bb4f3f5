/- The walk of slot's Unpack: short, long and whole rows of bytes. -/
import Derived.Test.YtlndlcdamimbdaaUnpack
namespace Go.Proofs.Ytlndlcdamimbdaa
open Go.RowKit

theorem below_six {w w1 : World} {B g : Nat} (hg : B ≤ g) (h : Below B w w1) (a b c d e f : Value) :
    Below B w ((((((w1.setCell ⟨g, 0, none⟩ a).setCell ⟨g, 1, none⟩ b).setCell ⟨g, 2, none⟩ c).setCell ⟨g, 3, none⟩ d).setCell ⟨g, 4, none⟩ e).setCell ⟨g, 5, none⟩ f) :=
  (((((h.setCell hg a).setCell hg b).setCell hg c).setCell hg d).setCell hg e).setCell hg f
def slotC (s : Sl) : Array Value := #[.int .u64 s.hi, .int .u64 s.lo, .int .i64 s.kind, .int .i64 s.score, .int .i64 s.work, .int .i64 s.age]

set_option maxRecDepth 100000 in
set_option maxHeartbeats 800000 in
theorem unpack_short (A : Option Addr) (n c : Nat) (w : World) (h : n < 16) : Calls Try.prog 51 #[.slice A n c] w fun e w' => e = .returned (.tuple #[zeroS.val, .int .i64 5]) ∧ Below w.heap.size w w' := by
  go_enter Try.func51, Try.ntmps51
  go_wp2
  exact bodyPost_ret (v := .tuple #[zeroS.val, .int .i64 5]) (by simp [results, Try.results51, go_sem, zeroS]) rfl ⟨rfl, (Below.refl _ w).alloc (Nat.le_refl _) _⟩
set_option maxRecDepth 100000 in
set_option maxHeartbeats 800000 in
theorem unpack_long (A : Option Addr) (n c : Nat) (w : World) (h : 16 < n) (hn : n ≤ 1000) : Calls Try.prog 51 #[.slice A n c] w fun e w' => e = .returned (.tuple #[zeroS.val, .int .i64 14]) ∧ Below w.heap.size w w' := by
  go_enter Try.func51, Try.ntmps51
  go_wp2
  exact bodyPost_ret (v := .tuple #[zeroS.val, .int .i64 14]) (by simp [results, Try.results51, go_sem, zeroS]) rfl ⟨rfl, (Below.refl _ w).alloc (Nat.le_refl _) _⟩

set_option maxRecDepth 100000 in
set_option maxHeartbeats 3200000 in
theorem unpack_yes (l : List Int) (hl : l.length = 16) (hb : Byt l) (A : Addr) (c : Nat) (w : World) (hr : Row w .u8 (some A) l) (hm : mayS (unpS l) = true) : Calls Try.prog 51 #[.slice (some A) 16 c] w fun e w' => e = .returned (.tuple #[(unpS l).val, .int .i64 0]) ∧ Below w.heap.size w w' := by
  have HNR : Hid (∀ w, Row w .u8 (some A) l → Calls Try.prog 38 #[.slice (some A) 16 c] w fun e w' => ∃ b, w.heap.size ≤ b ∧ e = .returned (.pointer (some ⟨b, 0, none⟩)) ∧ Rd 80 [] w' b l 0 ∧ Below w.heap.size w w') := by
    intro w h
    have := newReader_any (c := c) h hb (fun e => by cases e) (by omega)
    rw [hl] at this
    exact this
  have HKY : Hid (∀ (w : World) (b : Nat), Rd 80 [] w b l 0 → Calls Try.prog 40 #[.pointer (some ⟨b, 0, none⟩)] w fun e' w' => e' = .returned (.agg #[.int .u64 (unpS l).hi, .int .u64 (unpS l).lo]) ∧ Rd 80 [] w' b (l.drop 9) 0 ∧ w.grownBy w' (some b)) := fun w b h => rd_key hl h
  obtain ⟨hi, Hhi⟩ : ∃ n, Hid ((unpS l).hi = n) := ⟨_, rfl⟩
  obtain ⟨lo, Hlo⟩ : ∃ n, Hid ((unpS l).lo = n) := ⟨_, rfl⟩
  obtain ⟨n9, H9⟩ : ∃ n, Hid ((l.getD 9 0).toNat = n) := ⟨_, rfl⟩
  obtain ⟨n10, H10⟩ : ∃ n, Hid ((l.getD 10 0).toNat = n) := ⟨_, rfl⟩
  obtain ⟨n11, H11⟩ : ∃ n, Hid (sumL ((l.drop 11).take 4) = n) := ⟨_, rfl⟩
  obtain ⟨n15, H15⟩ : ∃ n, Hid ((l.getD 15 0).toNat = n) := ⟨_, rfl⟩
  have b9 : n9 < 256 := by rw [← H9.out]; exact getD_lt l 9 (by omega) hb
  have b10 : n10 < 256 := by rw [← H10.out]; exact getD_lt l 10 (by omega) hb
  have b15 : n15 < 256 := by rw [← H15.out]; exact getD_lt l 15 (by omega) hb
  have b11 : n11 < 4294967296 := by
    rw [← H11.out]
    have := sumL_lt ((l.drop 11).take 4) ((hb.drop 11).take 4)
    have e : ((l.drop 11).take 4).length = 4 := by simp; omega
    rw [e] at this
    omega
  have HS : Hid (unpS l = ⟨hi, lo, n9, (n10 : Int) - 32, n11, n15⟩) := by
    have h1 := Hhi.out
    have h2 := Hlo.out
    show unpS l = _
    rw [← h1, ← h2, ← H9.out, ← H10.out, ← H11.out, ← H15.out]
    rfl
  have HM : Hid (∀ w, Calls Try.prog 25 #[.agg #[.int .u64 hi, .int .u64 lo, .int .i64 n9, .int .i64 ((n10 : Int) - 32), .int .i64 n11, .int .i64 n15]] w fun e w' => e = .returned (.bool true) ∧ Below w.heap.size w w') := by
    intro w
    have := may_any ⟨hi, lo, n9, (n10 : Int) - 32, n11, n15⟩ w
    rw [← HS.out, hm] at this
    rw [HS.out] at this
    exact this
  have F9 : Hid (∀ (w : World) (b : Nat), Rd 80 [] w b (l.drop 9) 0 → Calls Try.prog 41 #[.pointer (some ⟨b, 0, none⟩), .int .i64 1] w fun e' w' => e' = .returned (.int .u64 n9) ∧ Rd 80 [] w' b (l.drop 10) 0 ∧ w.grownBy w' (some b)) := fun w b h => rd_fix 9 1 (by omega) (by omega) (by omega) h n9 (by rw [one_byte l 9 (by omega) hb]; exact H9.out)
  have F10 : Hid (∀ (w : World) (b : Nat), Rd 80 [] w b (l.drop 10) 0 → Calls Try.prog 41 #[.pointer (some ⟨b, 0, none⟩), .int .i64 1] w fun e' w' => e' = .returned (.int .u64 n10) ∧ Rd 80 [] w' b (l.drop 11) 0 ∧ w.grownBy w' (some b)) := fun w b h => rd_fix 10 1 (by omega) (by omega) (by omega) h n10 (by rw [one_byte l 10 (by omega) hb]; exact H10.out)
  have F11 : Hid (∀ (w : World) (b : Nat), Rd 80 [] w b (l.drop 11) 0 → Calls Try.prog 41 #[.pointer (some ⟨b, 0, none⟩), .int .i64 4] w fun e' w' => e' = .returned (.int .u64 n11) ∧ Rd 80 [] w' b (l.drop 15) 0 ∧ w.grownBy w' (some b)) := fun w b h => rd_fix 11 4 (by omega) (by omega) (by omega) h n11 H11.out
  have F15 : Hid (∀ (w : World) (b : Nat), Rd 80 [] w b (l.drop 15) 0 → Calls Try.prog 41 #[.pointer (some ⟨b, 0, none⟩), .int .i64 1] w fun e' w' => e' = .returned (.int .u64 n15) ∧ Rd 80 [] w' b (l.drop 16) 0 ∧ w.grownBy w' (some b)) := fun w b h => rd_fix 15 1 (by omega) (by omega) (by omega) h n15 (by rw [one_byte l 15 (by omega) hb]; exact H15.out)
  have HKY2 : Hid (∀ (w : World) (b : Nat), Rd 80 [] w b l 0 → Calls Try.prog 40 #[.pointer (some ⟨b, 0, none⟩)] w fun e' w' => e' = .returned (.agg #[.int .u64 hi, .int .u64 lo]) ∧ Rd 80 [] w' b (l.drop 9) 0 ∧ w.grownBy w' (some b)) := by
    intro w b h
    have := HKY.out w b h
    rw [Hhi.out, Hlo.out] at this
    exact this
  have HR := Lib.hid (hr.alloc (.cells #[.int .u64 0, .int .u64 0, .int .i64 0, .int .i64 0, .int .i64 0, .int .i64 0] 38))
  have HK0 := Lib.hid (Blk.new w 38 #[.int .u64 0, .int .u64 0, .int .i64 0, .int .i64 0, .int .i64 0, .int .i64 0])
  clear hr hb hm HKY H9 H10 H11 H15 Hhi Hlo
  go_enter Try.func51, Try.ntmps51
  go_wp2_with fail
  refine (HNR.out _ HR.out).mono ?_
  rintro e w1 ⟨b, hb0, rfl, h1, hb1⟩
  have hbb : w.heap.size < b := by simp at hb0; omega
  have B1 := Lib.hid (below_via hb1 ((Below.refl _ w).alloc (Nat.le_refl _) _))
  have K1 := Lib.hid (HK0.out.below hb1)
  have H1 := Lib.hid h1
  clear h1 hb1 HNR hb0 HR HK0
  go_wp2_with fail
  refine (HKY2.out _ _ H1.out).mono ?_
  rintro e w2 ⟨rfl, h2, hg2⟩
  have H2 := Lib.hid h2
  have B2 := Lib.hid (B1.out.grown hg2 B1.out.size (fun k hk => by injection hk with hk; omega))
  have K2 := Lib.hid (K1.out.grew hg2 (by omega))
  clear h2 hg2 HKY2 H1 B1 K1
  go_wp2_with fail
  refine (F9.out _ _ H2.out).mono ?_
  rintro e w3 ⟨rfl, h3, hg3⟩
  have H3 := Lib.hid h3
  have B3 := Lib.hid (B2.out.grown hg3 B2.out.size (fun k hk => by injection hk with hk; omega))
  have K3 := Lib.hid (K2.out.grew hg3 (by omega))
  clear h3 hg3 F9 H2 B2 K2
  go_wp2_with fail
  refine (F10.out _ _ H3.out).mono ?_
  rintro e w4 ⟨rfl, h4, hg4⟩
  have H4 := Lib.hid h4
  have B4 := Lib.hid (B3.out.grown hg4 B3.out.size (fun k hk => by injection hk with hk; omega))
  have K4 := Lib.hid (K3.out.grew hg4 (by omega))
  clear h4 hg4 F10 H3 B3 K3
  go_wp2_with fail
  refine (F11.out _ _ H4.out).mono ?_
  rintro e w5 ⟨rfl, h5, hg5⟩
  have H5 := Lib.hid h5
  have B5 := Lib.hid (B4.out.grown hg5 B4.out.size (fun k hk => by injection hk with hk; omega))
  have K5 := Lib.hid (K4.out.grew hg5 (by omega))
  clear h5 hg5 F11 H4 B4 K4
  go_wp2_with fail
  refine (F15.out _ _ H5.out).mono ?_
  rintro e w6 ⟨rfl, h6, hg6⟩
  have B6 := Lib.hid (B5.out.grown hg6 B5.out.size (fun k hk => by injection hk with hk; omega))
  have K6 := Lib.hid (K5.out.grew hg6 (by omega))
  clear h6 hg6 F15 H5 B5 K5
  go_wp2_with fail
  refine (HM.out _).mono ?_
  rintro e w7 ⟨rfl, hb7⟩
  have K7 := Lib.hid ((K6.out.alloc _).below hb7)
  have S7 := Lib.hid ((Blk.new w6 38 #[.int .u64 hi, .int .u64 lo, .int .i64 n9, .int .i64 ((n10 : Int) - 32), .int .i64 n11, .int .i64 n15]).below hb7)
  have B7 := Lib.hid (below_via hb7 (B6.out.alloc B6.out.size _))
  clear hb7 HM B6 K6
  obtain ⟨c0, c1, c2, c3, c4, c5⟩ := S7.out.six
  obtain ⟨d0, d1, d2, d3, d4, d5⟩ := K7.out.six
  have f0 := Go.Joins.unfrozen_of_block K7.out 0
  have f1 := Go.Joins.unfrozen_of_block K7.out 1
  have f2 := Go.Joins.unfrozen_of_block K7.out 2
  have f3 := Go.Joins.unfrozen_of_block K7.out 3
  have f4 := Go.Joins.unfrozen_of_block K7.out 4
  have f5 := Go.Joins.unfrozen_of_block K7.out 5
  go_wp2
  exact bodyPost_ret (v := .tuple #[Sl.val ⟨hi, lo, n9, (n10 : Int) - 32, n11, n15⟩, .int .i64 0]) (by simp [results, Try.results51, go_sem, d0, d1, d2, d3, d4, d5]) rfl ⟨by rw [HS.out], below_six (Nat.le_refl _) B7.out _ _ _ _ _ _⟩

set_option maxRecDepth 100000 in
set_option maxHeartbeats 3200000 in
theorem unpack_no (l : List Int) (hl : l.length = 16) (hb : Byt l) (A : Addr) (c : Nat) (w : World) (hr : Row w .u8 (some A) l) (hm : mayS (unpS l) = false) : Calls Try.prog 51 #[.slice (some A) 16 c] w fun e w' => e = .returned (.tuple #[zeroS.val, .int .i64 4]) ∧ Below w.heap.size w w' := by
  have HNR : Hid (∀ w, Row w .u8 (some A) l → Calls Try.prog 38 #[.slice (some A) 16 c] w fun e w' => ∃ b, w.heap.size ≤ b ∧ e = .returned (.pointer (some ⟨b, 0, none⟩)) ∧ Rd 80 [] w' b l 0 ∧ Below w.heap.size w w') := by
    intro w h
    have := newReader_any (c := c) h hb (fun e => by cases e) (by omega)
    rw [hl] at this
    exact this
  have HKY : Hid (∀ (w : World) (b : Nat), Rd 80 [] w b l 0 → Calls Try.prog 40 #[.pointer (some ⟨b, 0, none⟩)] w fun e' w' => e' = .returned (.agg #[.int .u64 (unpS l).hi, .int .u64 (unpS l).lo]) ∧ Rd 80 [] w' b (l.drop 9) 0 ∧ w.grownBy w' (some b)) := fun w b h => rd_key hl h
  obtain ⟨hi, Hhi⟩ : ∃ n, Hid ((unpS l).hi = n) := ⟨_, rfl⟩
  obtain ⟨lo, Hlo⟩ : ∃ n, Hid ((unpS l).lo = n) := ⟨_, rfl⟩
  obtain ⟨n9, H9⟩ : ∃ n, Hid ((l.getD 9 0).toNat = n) := ⟨_, rfl⟩
  obtain ⟨n10, H10⟩ : ∃ n, Hid ((l.getD 10 0).toNat = n) := ⟨_, rfl⟩
  obtain ⟨n11, H11⟩ : ∃ n, Hid (sumL ((l.drop 11).take 4) = n) := ⟨_, rfl⟩
  obtain ⟨n15, H15⟩ : ∃ n, Hid ((l.getD 15 0).toNat = n) := ⟨_, rfl⟩
  have b9 : n9 < 256 := by rw [← H9.out]; exact getD_lt l 9 (by omega) hb
  have b10 : n10 < 256 := by rw [← H10.out]; exact getD_lt l 10 (by omega) hb
  have b15 : n15 < 256 := by rw [← H15.out]; exact getD_lt l 15 (by omega) hb
  have b11 : n11 < 4294967296 := by
    rw [← H11.out]
    have := sumL_lt ((l.drop 11).take 4) ((hb.drop 11).take 4)
    have e : ((l.drop 11).take 4).length = 4 := by simp; omega
    rw [e] at this
    omega
  have HS : Hid (unpS l = ⟨hi, lo, n9, (n10 : Int) - 32, n11, n15⟩) := by
    have h1 := Hhi.out
    have h2 := Hlo.out
    show unpS l = _
    rw [← h1, ← h2, ← H9.out, ← H10.out, ← H11.out, ← H15.out]
    rfl
  have HM : Hid (∀ w, Calls Try.prog 25 #[.agg #[.int .u64 hi, .int .u64 lo, .int .i64 n9, .int .i64 ((n10 : Int) - 32), .int .i64 n11, .int .i64 n15]] w fun e w' => e = .returned (.bool false) ∧ Below w.heap.size w w') := by
    intro w
    have := may_any ⟨hi, lo, n9, (n10 : Int) - 32, n11, n15⟩ w
    rw [← HS.out, hm] at this
    rw [HS.out] at this
    exact this
  have F9 : Hid (∀ (w : World) (b : Nat), Rd 80 [] w b (l.drop 9) 0 → Calls Try.prog 41 #[.pointer (some ⟨b, 0, none⟩), .int .i64 1] w fun e' w' => e' = .returned (.int .u64 n9) ∧ Rd 80 [] w' b (l.drop 10) 0 ∧ w.grownBy w' (some b)) := fun w b h => rd_fix 9 1 (by omega) (by omega) (by omega) h n9 (by rw [one_byte l 9 (by omega) hb]; exact H9.out)
  have F10 : Hid (∀ (w : World) (b : Nat), Rd 80 [] w b (l.drop 10) 0 → Calls Try.prog 41 #[.pointer (some ⟨b, 0, none⟩), .int .i64 1] w fun e' w' => e' = .returned (.int .u64 n10) ∧ Rd 80 [] w' b (l.drop 11) 0 ∧ w.grownBy w' (some b)) := fun w b h => rd_fix 10 1 (by omega) (by omega) (by omega) h n10 (by rw [one_byte l 10 (by omega) hb]; exact H10.out)
  have F11 : Hid (∀ (w : World) (b : Nat), Rd 80 [] w b (l.drop 11) 0 → Calls Try.prog 41 #[.pointer (some ⟨b, 0, none⟩), .int .i64 4] w fun e' w' => e' = .returned (.int .u64 n11) ∧ Rd 80 [] w' b (l.drop 15) 0 ∧ w.grownBy w' (some b)) := fun w b h => rd_fix 11 4 (by omega) (by omega) (by omega) h n11 H11.out
  have F15 : Hid (∀ (w : World) (b : Nat), Rd 80 [] w b (l.drop 15) 0 → Calls Try.prog 41 #[.pointer (some ⟨b, 0, none⟩), .int .i64 1] w fun e' w' => e' = .returned (.int .u64 n15) ∧ Rd 80 [] w' b (l.drop 16) 0 ∧ w.grownBy w' (some b)) := fun w b h => rd_fix 15 1 (by omega) (by omega) (by omega) h n15 (by rw [one_byte l 15 (by omega) hb]; exact H15.out)
  have HKY2 : Hid (∀ (w : World) (b : Nat), Rd 80 [] w b l 0 → Calls Try.prog 40 #[.pointer (some ⟨b, 0, none⟩)] w fun e' w' => e' = .returned (.agg #[.int .u64 hi, .int .u64 lo]) ∧ Rd 80 [] w' b (l.drop 9) 0 ∧ w.grownBy w' (some b)) := by
    intro w b h
    have := HKY.out w b h
    rw [Hhi.out, Hlo.out] at this
    exact this
  have HR := Lib.hid (hr.alloc (.cells #[.int .u64 0, .int .u64 0, .int .i64 0, .int .i64 0, .int .i64 0, .int .i64 0] 38))
  have HK0 := Lib.hid (Blk.new w 38 #[.int .u64 0, .int .u64 0, .int .i64 0, .int .i64 0, .int .i64 0, .int .i64 0])
  clear hr hb hm HKY H9 H10 H11 H15 Hhi Hlo
  go_enter Try.func51, Try.ntmps51
  go_wp2_with fail
  refine (HNR.out _ HR.out).mono ?_
  rintro e w1 ⟨b, hb0, rfl, h1, hb1⟩
  have hbb : w.heap.size < b := by simp at hb0; omega
  have B1 := Lib.hid (below_via hb1 ((Below.refl _ w).alloc (Nat.le_refl _) _))
  have K1 := Lib.hid (HK0.out.below hb1)
  have H1 := Lib.hid h1
  clear h1 hb1 HNR hb0 HR HK0
  go_wp2_with fail
  refine (HKY2.out _ _ H1.out).mono ?_
  rintro e w2 ⟨rfl, h2, hg2⟩
  have H2 := Lib.hid h2
  have B2 := Lib.hid (B1.out.grown hg2 B1.out.size (fun k hk => by injection hk with hk; omega))
  have K2 := Lib.hid (K1.out.grew hg2 (by omega))
  clear h2 hg2 HKY2 H1 B1 K1
  go_wp2_with fail
  refine (F9.out _ _ H2.out).mono ?_
  rintro e w3 ⟨rfl, h3, hg3⟩
  have H3 := Lib.hid h3
  have B3 := Lib.hid (B2.out.grown hg3 B2.out.size (fun k hk => by injection hk with hk; omega))
  have K3 := Lib.hid (K2.out.grew hg3 (by omega))
  clear h3 hg3 F9 H2 B2 K2
  go_wp2_with fail
  refine (F10.out _ _ H3.out).mono ?_
  rintro e w4 ⟨rfl, h4, hg4⟩
  have H4 := Lib.hid h4
  have B4 := Lib.hid (B3.out.grown hg4 B3.out.size (fun k hk => by injection hk with hk; omega))
  have K4 := Lib.hid (K3.out.grew hg4 (by omega))
  clear h4 hg4 F10 H3 B3 K3
  go_wp2_with fail
  refine (F11.out _ _ H4.out).mono ?_
  rintro e w5 ⟨rfl, h5, hg5⟩
  have H5 := Lib.hid h5
  have B5 := Lib.hid (B4.out.grown hg5 B4.out.size (fun k hk => by injection hk with hk; omega))
  have K5 := Lib.hid (K4.out.grew hg5 (by omega))
  clear h5 hg5 F11 H4 B4 K4
  go_wp2_with fail
  refine (F15.out _ _ H5.out).mono ?_
  rintro e w6 ⟨rfl, h6, hg6⟩
  have B6 := Lib.hid (B5.out.grown hg6 B5.out.size (fun k hk => by injection hk with hk; omega))
  have K6 := Lib.hid (K5.out.grew hg6 (by omega))
  clear h6 hg6 F15 H5 B5 K5
  go_wp2_with fail
  refine (HM.out _).mono ?_
  rintro e w7 ⟨rfl, hb7⟩
  have K7 := Lib.hid ((K6.out.alloc _).below hb7)
  have S7 := Lib.hid ((Blk.new w6 38 #[.int .u64 hi, .int .u64 lo, .int .i64 n9, .int .i64 ((n10 : Int) - 32), .int .i64 n11, .int .i64 n15]).below hb7)
  have B7 := Lib.hid (below_via hb7 (B6.out.alloc B6.out.size _))
  clear hb7 HM B6 K6
  obtain ⟨c0, c1, c2, c3, c4, c5⟩ := S7.out.six
  obtain ⟨d0, d1, d2, d3, d4, d5⟩ := K7.out.six
  have f0 := Go.Joins.unfrozen_of_block K7.out 0
  have f1 := Go.Joins.unfrozen_of_block K7.out 1
  have f2 := Go.Joins.unfrozen_of_block K7.out 2
  have f3 := Go.Joins.unfrozen_of_block K7.out 3
  have f4 := Go.Joins.unfrozen_of_block K7.out 4
  have f5 := Go.Joins.unfrozen_of_block K7.out 5
  go_wp2
  exact bodyPost_ret (v := .tuple #[zeroS.val, .int .i64 4]) (by simp [results, Try.results51, go_sem, zeroS, d0, d1, d2, d3, d4, d5]) rfl ⟨rfl, below_six (Nat.le_refl _) B7.out _ _ _ _ _ _⟩
end Go.Proofs.Ytlndlcdamimbdaa
