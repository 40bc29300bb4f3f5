/- The walk of the reference's Unpack. -/
import Derived.Test.YtlndlcdamimbdaaUnpackW
import Derived.Test.YtlndlcdamimbdaaRefKeyR
import Derived.Deep.RegionHeld3
namespace Go.Proofs.Ytlndlcdamimbdaa
open Go.RowKit

theorem rd_refKey {w : World} {b : Nat} {l : List Int} (hl : l.length = 16) (h : Rd 64 [] w b l 0) : Calls Try.prog 46 #[.pointer (some ⟨b, 0, none⟩)] w fun e' w' => e' = .returned (.agg #[.int .u64 (unpS l).hi, .int .u64 (unpS l).lo]) ∧ Rd 64 [] w' b (l.drop 9) 0 ∧ w.grownBy w' (some b) := by
  have hb := h.byt
  have e1 : kyH l 0 = ((unpS l).hi : Int) := by
    unfold kyH tkV unpS
    rw [if_neg (by simp), if_neg (by omega)]
    have := hb.get 8 (by omega)
    simp [List.getD, List.getElem?_eq_getElem (show 8 < l.length by omega)]
    omega
  have e2 : kyL l 0 = (unpS l).lo := by
    unfold kyL tkV unpS
    rw [if_neg (by simp), if_neg (by omega), List.take_take]; rfl
  have e3 : tkS l 0 9 = l.drop 9 := by unfold tkS; rw [if_neg (by simp), if_neg (by omega)]
  have e4 : tkE l 0 9 = 0 := by unfold tkE; rw [if_neg (by simp), if_neg (by omega)]
  have := refKeyR_any h
  rw [e1, e2, e3, e4] at this
  exact this
set_option maxRecDepth 100000 in
set_option maxHeartbeats 800000 in
theorem refUnpack_short (A : Option Addr) (n c : Nat) (w : World) (h : n < 16) : Calls Try.prog 52 #[.slice A n c] w fun e w' => e = .returned (.tuple #[zeroS.val, .int .i64 5]) ∧ Below w.heap.size w w' := by
  go_enter Try.func52, Try.ntmps52
  go_wp2
  exact bodyPost_ret (v := .tuple #[zeroS.val, .int .i64 5]) (by simp [results, Try.results52, go_sem, zeroS]) rfl ⟨rfl, (Below.refl _ w).alloc (Nat.le_refl _) _⟩
set_option maxRecDepth 100000 in
set_option maxHeartbeats 800000 in
theorem refUnpack_long (A : Option Addr) (n c : Nat) (w : World) (h : 16 < n) (hn : n ≤ 1000) : Calls Try.prog 52 #[.slice A n c] w fun e w' => e = .returned (.tuple #[zeroS.val, .int .i64 14]) ∧ Below w.heap.size w w' := by
  go_enter Try.func52, Try.ntmps52
  go_wp2
  exact bodyPost_ret (v := .tuple #[zeroS.val, .int .i64 14]) (by simp [results, Try.results52, go_sem, zeroS]) rfl ⟨rfl, (Below.refl _ w).alloc (Nat.le_refl _) _⟩

theorem row_at {w : World} {A : Addr} {l : List Int} (h : Row w .u8 (some A) l) (hb : Byt l) (k : Nat) (hk : k < l.length) (h0 : 0 < k) : ∃ y : Nat, w.cell? ⟨A.block, A.off + k, none⟩ = some (.int .u8 y) ∧ y < 256 ∧ Hid ((l.getD k 0).toNat = y ∧ l[k] = y) := by
  obtain ⟨ad, e, hc⟩ := h.2 k hk
  injection e with e
  subst e
  obtain ⟨h1, h2⟩ := hb.get k hk
  refine ⟨l[k].toNat, ?_, by omega, ?_, by omega⟩
  · have e1 : A.add k = ⟨A.block, A.off + k, none⟩ := by unfold Addr.add; rw [if_neg (by omega)]
    rw [← e1, hc, Int.toNat_of_nonneg h1]
  · rw [List.getD, List.getElem?_eq_getElem hk]; rfl
theorem sum4 (l : List Int) (k a b c d : Nat) (h : k + 4 ≤ l.length) (ha : l[k]'(by omega) = a) (hb : l[k + 1]'(by omega) = b) (hc : l[k + 2]'(by omega) = c) (hd : l[k + 3]'(by omega) = d) : sumL ((l.drop k).take 4) = a + 256 * b + 65536 * c + 16777216 * d := by
  rw [List.drop_eq_getElem_cons (by omega), List.drop_eq_getElem_cons (by omega), List.drop_eq_getElem_cons (by omega), List.drop_eq_getElem_cons (by omega)]
  simp only [List.take_succ_cons, List.take_zero, sumL_cons, sumL_nil, ha, hb, hc, hd, Int.toNat_natCast]
  omega
set_option maxRecDepth 100000 in
set_option maxHeartbeats 3200000 in
theorem refUnpack_yes (l : List Int) (hl : l.length = 16) (hb : Byt l) (A : Addr) (c : Nat) (w : World) (hr : Row w .u8 (some A) l) (hc16 : 16 ≤ c) (hcm : c ≤ maxLen) (hm : mayS (unpS l) = true) : Calls Try.prog 52 #[.slice (some A) 16 c] w fun e w' => e = .returned (.tuple #[(unpS l).val, .int .i64 0]) ∧ Below w.heap.size w w' := by
  have HKY : Hid (∀ (w : World) (b : Nat), Rd 64 [] w b l 0 → Calls Try.prog 46 #[.pointer (some ⟨b, 0, none⟩)] w fun e' w' => e' = .returned (.agg #[.int .u64 (unpS l).hi, .int .u64 (unpS l).lo]) ∧ Rd 64 [] w' b (l.drop 9) 0 ∧ w.grownBy w' (some b)) := fun w b h => rd_refKey hl h
  have hA := hr.lt A rfl (by omega)
  obtain ⟨hi, Hhi⟩ : ∃ n, Hid ((unpS l).hi = n) := ⟨_, rfl⟩
  obtain ⟨lo, Hlo⟩ : ∃ n, Hid ((unpS l).lo = n) := ⟨_, rfl⟩
  have HKY2 : Hid (∀ (w : World) (b : Nat), Rd 64 [] w b l 0 → Calls Try.prog 46 #[.pointer (some ⟨b, 0, none⟩)] w fun e' w' => e' = .returned (.agg #[.int .u64 hi, .int .u64 lo]) ∧ Rd 64 [] w' b (l.drop 9) 0 ∧ w.grownBy w' (some b)) := by
    intro w b h
    have := HKY.out w b h
    rw [Hhi.out, Hlo.out] at this
    exact this
  have HRd : Hid (Rd 64 [] (((w.alloc (.cells #[.int .u64 0, .int .u64 0, .int .i64 0, .int .i64 0, .int .i64 0, .int .i64 0] 38)).alloc (.cells #[.slice (some A) 16 c, .int .i64 0] 64)).alloc (.cells #[.int .u64 0, .int .u64 0, .int .i64 0, .int .i64 0, .int .i64 0, .int .i64 0] 38)) (w.heap.size + 1) l 0) := by
    refine ⟨A, c, ?_, ((hr.alloc _).alloc _).alloc _, by omega, hcm, by omega, hb, fun _ => ⟨by omega, by simp⟩⟩
    rw [hl]
    have := (Blk.new (w.alloc (.cells #[.int .u64 0, .int .u64 0, .int .i64 0, .int .i64 0, .int .i64 0, .int .i64 0] 38)) 64 #[.slice (some A) 16 c, .int .i64 0]).alloc (.cells #[.int .u64 0, .int .u64 0, .int .i64 0, .int .i64 0, .int .i64 0, .int .i64 0] 38)
    rw [World.size_alloc] at this
    exact this
  clear HKY
  go_enter Try.func52, Try.ntmps52
  go_wp2_with fail
  refine (HKY2.out _ _ HRd.out).mono ?_
  rintro e w1 ⟨rfl, h1, hg1⟩
  have hgz : w.heap.size + 2 < w1.heap.size := by have := hg1.size; simp at this; omega
  have K1 := Lib.hid (Blk.grew hg1 (show w.heap.size ≠ w.heap.size + 1 by omega) (((Blk.new w 38 #[.int .u64 0, .int .u64 0, .int .i64 0, .int .i64 0, .int .i64 0, .int .i64 0]).alloc _).alloc _))
  have G1 : Hid (Blk w1 (w.heap.size + 2) 38 #[.int .u64 0, .int .u64 0, .int .i64 0, .int .i64 0, .int .i64 0, .int .i64 0]) := by
    refine Lib.hid (Blk.grew hg1 (show w.heap.size + 2 ≠ w.heap.size + 1 by omega) ?_)
    have := Blk.new ((w.alloc (.cells #[.int .u64 0, .int .u64 0, .int .i64 0, .int .i64 0, .int .i64 0, .int .i64 0] 38)).alloc (.cells #[.slice (some A) 16 c, .int .i64 0] 64)) 38 #[.int .u64 0, .int .u64 0, .int .i64 0, .int .i64 0, .int .i64 0, .int .i64 0]
    rw [World.size_alloc, World.size_alloc] at this
    exact this
  have B1 : Hid (Below w.heap.size w w1) := Lib.hid (Below.grown ((((Below.refl _ w).alloc (Nat.le_refl _) _).alloc (by simp) _).alloc (by simp; omega) _) hg1 (by simp; omega) (by intro r hr; injection hr with hr; omega))
  have HR1 := Lib.hid (Row.grew hg1 (show A.block ≠ w.heap.size + 1 by omega) (((hr.alloc _).alloc _).alloc _))
  obtain ⟨y9, r9, v9, Y9⟩ := row_at HR1.out hb 9 (by omega) (by omega)
  obtain ⟨y10, r10, v10, Y10⟩ := row_at HR1.out hb 10 (by omega) (by omega)
  obtain ⟨y11, r11, v11, Y11⟩ := row_at HR1.out hb 11 (by omega) (by omega)
  obtain ⟨y12, r12, v12, Y12⟩ := row_at HR1.out hb 12 (by omega) (by omega)
  obtain ⟨y13, r13, v13, Y13⟩ := row_at HR1.out hb 13 (by omega) (by omega)
  obtain ⟨y14, r14, v14, Y14⟩ := row_at HR1.out hb 14 (by omega) (by omega)
  obtain ⟨y15, r15, v15, Y15⟩ := row_at HR1.out hb 15 (by omega) (by omega)
  have HS : Hid (unpS l = ⟨hi, lo, y9, (y10 : Int) - 32, ((y11 : Int) + 256 * y12 + 65536 * y13 + 16777216 * y14), y15⟩) := by
    have h1 := Hhi.out
    have h2 := Hlo.out
    have h3 := sum4 l 11 y11 y12 y13 y14 (by omega) Y11.out.2 Y12.out.2 Y13.out.2 Y14.out.2
    show unpS l = _
    rw [show ((y11 : Int) + 256 * y12 + 65536 * y13 + 16777216 * y14) = ((y11 + 256 * y12 + 65536 * y13 + 16777216 * y14 : Nat) : Int) by omega, ← h1, ← h2, ← Y9.out.1, ← Y10.out.1, ← h3, ← Y15.out.1]
    rfl
  have HM : Hid (∀ w, Calls Try.prog 23 #[.agg #[.int .u64 hi, .int .u64 lo, .int .i64 y9, .int .i64 ((y10 : Int) - 32), .int .i64 ((y11 : Int) + 256 * y12 + 65536 * y13 + 16777216 * y14), .int .i64 y15]] w fun e w' => e = .returned (.bool true) ∧ Below w.heap.size w w') := by
    intro w
    have := refMay22_any ⟨hi, lo, y9, (y10 : Int) - 32, ((y11 : Int) + 256 * y12 + 65536 * y13 + 16777216 * y14), y15⟩ w
    rw [← HS.out, hm] at this
    rw [HS.out] at this
    exact this
  clear hm
  obtain ⟨g, HG⟩ : ∃ g, Hid (w.heap.size + 2 = g) := ⟨_, rfl⟩
  have hne : A.block ≠ g := by have := HG.out; omega
  rw [HG.out] at G1
  clear hg1 h1 HKY2 HRd hr hb
  rw [HG.out]
  obtain ⟨c0, c1, c2, c3, c4, c5⟩ := G1.out.six
  have f0 := Go.Joins.unfrozen_of_block G1.out 0
  have f1 := Go.Joins.unfrozen_of_block G1.out 1
  have f2 := Go.Joins.unfrozen_of_block G1.out 2
  have f3 := Go.Joins.unfrozen_of_block G1.out 3
  have f4 := Go.Joins.unfrozen_of_block G1.out 4
  have f5 := Go.Joins.unfrozen_of_block G1.out 5
  go_wp2_with fail
  have s4 : ∀ (k : Nat) (y : Nat), w1.cell? ⟨A.block, A.off + k, none⟩ = some (.int .u8 y) → ((((w1.setCell ⟨g, 0, none⟩ (.int .u64 hi)).setCell ⟨g, 1, none⟩ (.int .u64 lo)).setCell ⟨g, 2, none⟩ (.int .i64 y9)).setCell ⟨g, 3, none⟩ (.int .i64 ((y10 : Int) - 32))).cell? ⟨A.block, A.off + k, none⟩ = some (.int .u8 y) := fun k y h => cell_set_other hne (cell_set_other hne (cell_set_other hne (cell_set_other hne h)))
  replace r11 := s4 11 _ r11
  replace r12 := s4 12 _ r12
  replace r13 := s4 13 _ r13
  replace r14 := s4 14 _ r14
  replace r15 := s4 15 _ r15
  clear s4 r9 r10
  have GW : Hid (Blk ((((w1.setCell ⟨g, 0, none⟩ (.int .u64 hi)).setCell ⟨g, 1, none⟩ (.int .u64 lo)).setCell ⟨g, 2, none⟩ (.int .i64 y9)).setCell ⟨g, 3, none⟩ (.int .i64 ((y10 : Int) - 32))) g 38 #[.int .u64 hi, .int .u64 lo, .int .i64 y9, .int .i64 ((y10 : Int) - 32), .int .i64 0, .int .i64 0]) := Lib.hid (Go.Joins.block_setCell (i := 3) (Go.Joins.block_setCell (i := 2) (Go.Joins.block_setCell (i := 1) (Go.Joins.block_setCell (i := 0) G1.out _) _) _) _)
  have hgr : w1.grownBy ((((w1.setCell ⟨g, 0, none⟩ (.int .u64 hi)).setCell ⟨g, 1, none⟩ (.int .u64 lo)).setCell ⟨g, 2, none⟩ (.int .i64 y9)).setCell ⟨g, 3, none⟩ (.int .i64 ((y10 : Int) - 32))) (some g) := (((set_grown _ _ _ _).trans (set_grown _ _ _ _)).trans (set_grown _ _ _ _)).trans (set_grown _ _ _ _)
  have KW := Lib.hid (K1.out.grew hgr (by have := HG.out; omega))
  have BW := Lib.hid (Below.grown B1.out hgr (by omega) (by intro r hr; injection hr with hr; have := HG.out; omega))
  clear hgr
  generalize (((w1.setCell ⟨g, 0, none⟩ (.int .u64 hi)).setCell ⟨g, 1, none⟩ (.int .u64 lo)).setCell ⟨g, 2, none⟩ (.int .i64 y9)).setCell ⟨g, 3, none⟩ (.int .i64 ((y10 : Int) - 32)) = W at *
  clear c0 c1 c2 c3 c4 c5 f0 f1 f2 f3 f4 f5 G1 K1 B1 HR1 Y9 Y10 Y11 Y12 Y13 Y14 Y15
  have c4 := GW.out.six.2.2.2.2.1
  have f4 := Go.Joins.unfrozen_of_block GW.out 4
  go_region_held3 (fun w' => w'.cell? ⟨A.block, A.off + 11, none⟩ = some (.int .u8 y11) ∧ w'.cell? ⟨A.block, A.off + 12, none⟩ = some (.int .u8 y12) ∧ w'.cell? ⟨A.block, A.off + 13, none⟩ = some (.int .u8 y13) ∧ w'.cell? ⟨A.block, A.off + 14, none⟩ = some (.int .u8 y14)) (first | exact ⟨r11, r12, r13, r14⟩ | exact ⟨cell_set_other hne r11, cell_set_other hne r12, cell_set_other hne r13, cell_set_other hne r14⟩) (fail)
  obtain ⟨c0, c1, c2, c3, c4', c5⟩ := GW.out.six
  have f5 := Go.Joins.unfrozen_of_block GW.out 5
  go_wp2_with fail
  refine (HM.out _).mono ?_
  rintro e w7 ⟨rfl, hb7⟩
  have hg5 : ∀ X, W.grownBy ((W.setCell ⟨g, 4, none⟩ (.int .i64 X)).setCell ⟨g, 5, none⟩ (.int .i64 y15)).drew (some g) := fun X => grown_drew ((set_grown _ _ _ _).trans (set_grown _ _ _ _))
  have G6 : Blk ((W.setCell ⟨g, 4, none⟩ (.int .i64 ((y11 : Int) + 256 * y12 + 65536 * y13 + 16777216 * y14))).setCell ⟨g, 5, none⟩ (.int .i64 y15)).drew g 38 #[.int .u64 hi, .int .u64 lo, .int .i64 y9, .int .i64 ((y10 : Int) - 32), .int .i64 ((y11 : Int) + 256 * y12 + 65536 * y13 + 16777216 * y14), .int .i64 y15] := Go.Joins.block_setCell (i := 5) (Go.Joins.block_setCell (i := 4) GW.out _) _
  have G7 := Lib.hid (Blk.below G6 hb7)
  have K7 := Lib.hid ((KW.out.grew (hg5 _) (by have := HG.out; omega)).below hb7)
  have B7 := Lib.hid (below_via hb7 (Below.grown BW.out (hg5 ((y11 : Int) + 256 * y12 + 65536 * y13 + 16777216 * y14)) BW.out.size (by intro r hr; injection hr with hr; have := HG.out; omega)))
  clear hb7 HM KW GW BW hg5 G6 c0 c1 c2 c3 c4 c4' c5 f4 f5 r11 r12 r13 r14 r15
  obtain ⟨c0, c1, c2, c3, c4, c5⟩ := G7.out.six
  obtain ⟨d0, d1, d2, d3, d4, d5⟩ := K7.out.six
  have f0 := Go.Joins.unfrozen_of_block K7.out 0
  have f1 := Go.Joins.unfrozen_of_block K7.out 1
  have f2 := Go.Joins.unfrozen_of_block K7.out 2
  have f3 := Go.Joins.unfrozen_of_block K7.out 3
  have f4 := Go.Joins.unfrozen_of_block K7.out 4
  have f5 := Go.Joins.unfrozen_of_block K7.out 5
  go_wp2
  exact bodyPost_ret (v := .tuple #[Sl.val ⟨hi, lo, y9, (y10 : Int) - 32, ((y11 : Int) + 256 * y12 + 65536 * y13 + 16777216 * y14), y15⟩, .int .i64 0]) (by simp [results, Try.results52, go_sem, d0, d1, d2, d3, d4, d5]) rfl ⟨by rw [HS.out], below_six (Nat.le_refl _) B7.out _ _ _ _ _ _⟩

set_option maxRecDepth 100000 in
set_option maxHeartbeats 3200000 in
theorem refUnpack_no (l : List Int) (hl : l.length = 16) (hb : Byt l) (A : Addr) (c : Nat) (w : World) (hr : Row w .u8 (some A) l) (hc16 : 16 ≤ c) (hcm : c ≤ maxLen) (hm : mayS (unpS l) = false) : Calls Try.prog 52 #[.slice (some A) 16 c] w fun e w' => e = .returned (.tuple #[zeroS.val, .int .i64 4]) ∧ Below w.heap.size w w' := by
  have HKY : Hid (∀ (w : World) (b : Nat), Rd 64 [] w b l 0 → Calls Try.prog 46 #[.pointer (some ⟨b, 0, none⟩)] w fun e' w' => e' = .returned (.agg #[.int .u64 (unpS l).hi, .int .u64 (unpS l).lo]) ∧ Rd 64 [] w' b (l.drop 9) 0 ∧ w.grownBy w' (some b)) := fun w b h => rd_refKey hl h
  have hA := hr.lt A rfl (by omega)
  obtain ⟨hi, Hhi⟩ : ∃ n, Hid ((unpS l).hi = n) := ⟨_, rfl⟩
  obtain ⟨lo, Hlo⟩ : ∃ n, Hid ((unpS l).lo = n) := ⟨_, rfl⟩
  have HKY2 : Hid (∀ (w : World) (b : Nat), Rd 64 [] w b l 0 → Calls Try.prog 46 #[.pointer (some ⟨b, 0, none⟩)] w fun e' w' => e' = .returned (.agg #[.int .u64 hi, .int .u64 lo]) ∧ Rd 64 [] w' b (l.drop 9) 0 ∧ w.grownBy w' (some b)) := by
    intro w b h
    have := HKY.out w b h
    rw [Hhi.out, Hlo.out] at this
    exact this
  have HRd : Hid (Rd 64 [] (((w.alloc (.cells #[.int .u64 0, .int .u64 0, .int .i64 0, .int .i64 0, .int .i64 0, .int .i64 0] 38)).alloc (.cells #[.slice (some A) 16 c, .int .i64 0] 64)).alloc (.cells #[.int .u64 0, .int .u64 0, .int .i64 0, .int .i64 0, .int .i64 0, .int .i64 0] 38)) (w.heap.size + 1) l 0) := by
    refine ⟨A, c, ?_, ((hr.alloc _).alloc _).alloc _, by omega, hcm, by omega, hb, fun _ => ⟨by omega, by simp⟩⟩
    rw [hl]
    have := (Blk.new (w.alloc (.cells #[.int .u64 0, .int .u64 0, .int .i64 0, .int .i64 0, .int .i64 0, .int .i64 0] 38)) 64 #[.slice (some A) 16 c, .int .i64 0]).alloc (.cells #[.int .u64 0, .int .u64 0, .int .i64 0, .int .i64 0, .int .i64 0, .int .i64 0] 38)
    rw [World.size_alloc] at this
    exact this
  clear HKY
  go_enter Try.func52, Try.ntmps52
  go_wp2_with fail
  refine (HKY2.out _ _ HRd.out).mono ?_
  rintro e w1 ⟨rfl, h1, hg1⟩
  have hgz : w.heap.size + 2 < w1.heap.size := by have := hg1.size; simp at this; omega
  have K1 := Lib.hid (Blk.grew hg1 (show w.heap.size ≠ w.heap.size + 1 by omega) (((Blk.new w 38 #[.int .u64 0, .int .u64 0, .int .i64 0, .int .i64 0, .int .i64 0, .int .i64 0]).alloc _).alloc _))
  have G1 : Hid (Blk w1 (w.heap.size + 2) 38 #[.int .u64 0, .int .u64 0, .int .i64 0, .int .i64 0, .int .i64 0, .int .i64 0]) := by
    refine Lib.hid (Blk.grew hg1 (show w.heap.size + 2 ≠ w.heap.size + 1 by omega) ?_)
    have := Blk.new ((w.alloc (.cells #[.int .u64 0, .int .u64 0, .int .i64 0, .int .i64 0, .int .i64 0, .int .i64 0] 38)).alloc (.cells #[.slice (some A) 16 c, .int .i64 0] 64)) 38 #[.int .u64 0, .int .u64 0, .int .i64 0, .int .i64 0, .int .i64 0, .int .i64 0]
    rw [World.size_alloc, World.size_alloc] at this
    exact this
  have B1 : Hid (Below w.heap.size w w1) := Lib.hid (Below.grown ((((Below.refl _ w).alloc (Nat.le_refl _) _).alloc (by simp) _).alloc (by simp; omega) _) hg1 (by simp; omega) (by intro r hr; injection hr with hr; omega))
  have HR1 := Lib.hid (Row.grew hg1 (show A.block ≠ w.heap.size + 1 by omega) (((hr.alloc _).alloc _).alloc _))
  obtain ⟨y9, r9, v9, Y9⟩ := row_at HR1.out hb 9 (by omega) (by omega)
  obtain ⟨y10, r10, v10, Y10⟩ := row_at HR1.out hb 10 (by omega) (by omega)
  obtain ⟨y11, r11, v11, Y11⟩ := row_at HR1.out hb 11 (by omega) (by omega)
  obtain ⟨y12, r12, v12, Y12⟩ := row_at HR1.out hb 12 (by omega) (by omega)
  obtain ⟨y13, r13, v13, Y13⟩ := row_at HR1.out hb 13 (by omega) (by omega)
  obtain ⟨y14, r14, v14, Y14⟩ := row_at HR1.out hb 14 (by omega) (by omega)
  obtain ⟨y15, r15, v15, Y15⟩ := row_at HR1.out hb 15 (by omega) (by omega)
  have HS : Hid (unpS l = ⟨hi, lo, y9, (y10 : Int) - 32, ((y11 : Int) + 256 * y12 + 65536 * y13 + 16777216 * y14), y15⟩) := by
    have h1 := Hhi.out
    have h2 := Hlo.out
    have h3 := sum4 l 11 y11 y12 y13 y14 (by omega) Y11.out.2 Y12.out.2 Y13.out.2 Y14.out.2
    show unpS l = _
    rw [show ((y11 : Int) + 256 * y12 + 65536 * y13 + 16777216 * y14) = ((y11 + 256 * y12 + 65536 * y13 + 16777216 * y14 : Nat) : Int) by omega, ← h1, ← h2, ← Y9.out.1, ← Y10.out.1, ← h3, ← Y15.out.1]
    rfl
  have HM : Hid (∀ w, Calls Try.prog 23 #[.agg #[.int .u64 hi, .int .u64 lo, .int .i64 y9, .int .i64 ((y10 : Int) - 32), .int .i64 ((y11 : Int) + 256 * y12 + 65536 * y13 + 16777216 * y14), .int .i64 y15]] w fun e w' => e = .returned (.bool false) ∧ Below w.heap.size w w') := by
    intro w
    have := refMay22_any ⟨hi, lo, y9, (y10 : Int) - 32, ((y11 : Int) + 256 * y12 + 65536 * y13 + 16777216 * y14), y15⟩ w
    rw [← HS.out, hm] at this
    rw [HS.out] at this
    exact this
  clear hm
  obtain ⟨g, HG⟩ : ∃ g, Hid (w.heap.size + 2 = g) := ⟨_, rfl⟩
  have hne : A.block ≠ g := by have := HG.out; omega
  rw [HG.out] at G1
  clear hg1 h1 HKY2 HRd hr hb
  rw [HG.out]
  obtain ⟨c0, c1, c2, c3, c4, c5⟩ := G1.out.six
  have f0 := Go.Joins.unfrozen_of_block G1.out 0
  have f1 := Go.Joins.unfrozen_of_block G1.out 1
  have f2 := Go.Joins.unfrozen_of_block G1.out 2
  have f3 := Go.Joins.unfrozen_of_block G1.out 3
  have f4 := Go.Joins.unfrozen_of_block G1.out 4
  have f5 := Go.Joins.unfrozen_of_block G1.out 5
  go_wp2_with fail
  have s4 : ∀ (k : Nat) (y : Nat), w1.cell? ⟨A.block, A.off + k, none⟩ = some (.int .u8 y) → ((((w1.setCell ⟨g, 0, none⟩ (.int .u64 hi)).setCell ⟨g, 1, none⟩ (.int .u64 lo)).setCell ⟨g, 2, none⟩ (.int .i64 y9)).setCell ⟨g, 3, none⟩ (.int .i64 ((y10 : Int) - 32))).cell? ⟨A.block, A.off + k, none⟩ = some (.int .u8 y) := fun k y h => cell_set_other hne (cell_set_other hne (cell_set_other hne (cell_set_other hne h)))
  replace r11 := s4 11 _ r11
  replace r12 := s4 12 _ r12
  replace r13 := s4 13 _ r13
  replace r14 := s4 14 _ r14
  replace r15 := s4 15 _ r15
  clear s4 r9 r10
  have GW : Hid (Blk ((((w1.setCell ⟨g, 0, none⟩ (.int .u64 hi)).setCell ⟨g, 1, none⟩ (.int .u64 lo)).setCell ⟨g, 2, none⟩ (.int .i64 y9)).setCell ⟨g, 3, none⟩ (.int .i64 ((y10 : Int) - 32))) g 38 #[.int .u64 hi, .int .u64 lo, .int .i64 y9, .int .i64 ((y10 : Int) - 32), .int .i64 0, .int .i64 0]) := Lib.hid (Go.Joins.block_setCell (i := 3) (Go.Joins.block_setCell (i := 2) (Go.Joins.block_setCell (i := 1) (Go.Joins.block_setCell (i := 0) G1.out _) _) _) _)
  have hgr : w1.grownBy ((((w1.setCell ⟨g, 0, none⟩ (.int .u64 hi)).setCell ⟨g, 1, none⟩ (.int .u64 lo)).setCell ⟨g, 2, none⟩ (.int .i64 y9)).setCell ⟨g, 3, none⟩ (.int .i64 ((y10 : Int) - 32))) (some g) := (((set_grown _ _ _ _).trans (set_grown _ _ _ _)).trans (set_grown _ _ _ _)).trans (set_grown _ _ _ _)
  have KW := Lib.hid (K1.out.grew hgr (by have := HG.out; omega))
  have BW := Lib.hid (Below.grown B1.out hgr (by omega) (by intro r hr; injection hr with hr; have := HG.out; omega))
  clear hgr
  generalize (((w1.setCell ⟨g, 0, none⟩ (.int .u64 hi)).setCell ⟨g, 1, none⟩ (.int .u64 lo)).setCell ⟨g, 2, none⟩ (.int .i64 y9)).setCell ⟨g, 3, none⟩ (.int .i64 ((y10 : Int) - 32)) = W at *
  clear c0 c1 c2 c3 c4 c5 f0 f1 f2 f3 f4 f5 G1 K1 B1 HR1 Y9 Y10 Y11 Y12 Y13 Y14 Y15
  have c4 := GW.out.six.2.2.2.2.1
  have f4 := Go.Joins.unfrozen_of_block GW.out 4
  go_region_held3 (fun w' => w'.cell? ⟨A.block, A.off + 11, none⟩ = some (.int .u8 y11) ∧ w'.cell? ⟨A.block, A.off + 12, none⟩ = some (.int .u8 y12) ∧ w'.cell? ⟨A.block, A.off + 13, none⟩ = some (.int .u8 y13) ∧ w'.cell? ⟨A.block, A.off + 14, none⟩ = some (.int .u8 y14)) (first | exact ⟨r11, r12, r13, r14⟩ | exact ⟨cell_set_other hne r11, cell_set_other hne r12, cell_set_other hne r13, cell_set_other hne r14⟩) (fail)
  obtain ⟨c0, c1, c2, c3, c4', c5⟩ := GW.out.six
  have f5 := Go.Joins.unfrozen_of_block GW.out 5
  go_wp2_with fail
  refine (HM.out _).mono ?_
  rintro e w7 ⟨rfl, hb7⟩
  have hg5 : ∀ X, W.grownBy ((W.setCell ⟨g, 4, none⟩ (.int .i64 X)).setCell ⟨g, 5, none⟩ (.int .i64 y15)).drew (some g) := fun X => grown_drew ((set_grown _ _ _ _).trans (set_grown _ _ _ _))
  have G6 : Blk ((W.setCell ⟨g, 4, none⟩ (.int .i64 ((y11 : Int) + 256 * y12 + 65536 * y13 + 16777216 * y14))).setCell ⟨g, 5, none⟩ (.int .i64 y15)).drew g 38 #[.int .u64 hi, .int .u64 lo, .int .i64 y9, .int .i64 ((y10 : Int) - 32), .int .i64 ((y11 : Int) + 256 * y12 + 65536 * y13 + 16777216 * y14), .int .i64 y15] := Go.Joins.block_setCell (i := 5) (Go.Joins.block_setCell (i := 4) GW.out _) _
  have G7 := Lib.hid (Blk.below G6 hb7)
  have K7 := Lib.hid ((KW.out.grew (hg5 _) (by have := HG.out; omega)).below hb7)
  have B7 := Lib.hid (below_via hb7 (Below.grown BW.out (hg5 ((y11 : Int) + 256 * y12 + 65536 * y13 + 16777216 * y14)) BW.out.size (by intro r hr; injection hr with hr; have := HG.out; omega)))
  clear hb7 HM KW GW BW hg5 G6 c0 c1 c2 c3 c4 c4' c5 f4 f5 r11 r12 r13 r14 r15
  obtain ⟨c0, c1, c2, c3, c4, c5⟩ := G7.out.six
  obtain ⟨d0, d1, d2, d3, d4, d5⟩ := K7.out.six
  have f0 := Go.Joins.unfrozen_of_block K7.out 0
  have f1 := Go.Joins.unfrozen_of_block K7.out 1
  have f2 := Go.Joins.unfrozen_of_block K7.out 2
  have f3 := Go.Joins.unfrozen_of_block K7.out 3
  have f4 := Go.Joins.unfrozen_of_block K7.out 4
  have f5 := Go.Joins.unfrozen_of_block K7.out 5
  go_wp2
  exact bodyPost_ret (v := .tuple #[zeroS.val, .int .i64 4]) (by simp [results, Try.results52, go_sem, zeroS, d0, d1, d2, d3, d4, d5]) rfl ⟨rfl, below_six (Nat.le_refl _) B7.out _ _ _ _ _ _⟩
end Go.Proofs.Ytlndlcdamimbdaa
