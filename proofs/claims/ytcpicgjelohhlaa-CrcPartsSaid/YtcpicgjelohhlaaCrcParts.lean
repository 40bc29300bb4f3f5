/- The walk of the law CrcParts. -/
import Derived.Test.YtcpicgjelohhlaaCrcTurn
import Derived.Deep.Slices
import Derived.Lib.SmallJoins
namespace Go.Proofs.Ytcpicgjelohhlaa
open Go.RowKit

set_option maxHeartbeats 400000 in
theorem value_any (b : Nat) (c n : Int) (w : World) (h : w.heap[b]? = some (.cells #[.int .u32 c, .int .i64 n] 44 (0, 0))) :
    Calls Try.prog 23 #[.pointer (some ⟨b, 0, none⟩)] w fun e w' => e = .returned (.int .u32 c) ∧ w' = w := by
  have hc : w.cell? ⟨b, 0, none⟩ = some (.int .u32 c) := by simp [World.cell?, h]
  clear h
  go_enter Try.func23, Try.ntmps23
  go_wp2
  go_ret
  exact ⟨rfl, rfl⟩
set_option maxHeartbeats 400000 in
theorem len_any (b : Nat) (c n : Int) (w : World) (h : w.heap[b]? = some (.cells #[.int .u32 c, .int .i64 n] 44 (0, 0))) :
    Calls Try.prog 24 #[.pointer (some ⟨b, 0, none⟩)] w fun e w' => e = .returned (.int .i64 n) ∧ w' = w := by
  have hc : w.cell? ⟨b, 1, none⟩ = some (.int .i64 n) := by simp [World.cell?, h]
  clear h
  go_enter Try.func24, Try.ntmps24
  go_wp2
  go_ret
  exact ⟨rfl, rfl⟩
theorem grown_sets {w w1 : World} {b : Nat} (hb : Below w.heap.size w w1) (u v : Value) : w.grownBy ((w1.setCell ⟨b, 0, none⟩ u).setCell ⟨b, 1, none⟩ v) (some b) :=
  ⟨hb.os, hb.tape, hb.output, by simpa [World.setCell] using hb.size, fun k hk hne => by
    have hkb : k ≠ b := fun e => hne (by rw [e])
    rw [Below.heap_setCell _ _ _ _ hkb, Below.heap_setCell _ _ _ _ hkb]
    exact hb.block k hk⟩
set_option maxHeartbeats 400000 in
theorem write_any (b : Nat) (c : Int) (n : Nat) (A : Option Addr) (cap : Nat) (l : List Int) (w : World) (h : w.heap[b]? = some (.cells #[.int .u32 c, .int .i64 n] 44 (0, 0))) (hr : Row w .u8 A l) (hn : n ≤ 100000) (hl : l.length ≤ 100000) :
    Calls Try.prog 22 #[.pointer (some ⟨b, 0, none⟩), .slice A l.length cap] w fun e w' => e = .returned (.tuple #[]) ∧ w'.heap[b]? = some (.cells #[.int .u32 (moreF c l), .int .i64 (n + l.length : Nat)] 44 (0, 0)) ∧ w.grownBy w' (some b) := by
  have hc : w.cell? ⟨b, 0, none⟩ = some (.int .u32 c) := by simp [World.cell?, h]
  have hblt := lt_of_block h
  have H := Lib.hid h
  have HR := Lib.hid hr
  clear h hr
  go_enter Try.func22, Try.ntmps22
  go_wp2_with fail
  refine (more_any c A cap l w HR.out).mono ?_
  rintro e w1 ⟨rfl, hb⟩
  have h1 : w1.heap[b]? = some (.cells #[.int .u32 c, .int .i64 n] 44 (0, 0)) := (hb.block b hblt).trans H.out
  have hc0 : w1.cell? ⟨b, 0, none⟩ = some (.int .u32 c) := by simp [World.cell?, h1]
  have hc1 : w1.cell? ⟨b, 1, none⟩ = some (.int .i64 n) := by simp [World.cell?, h1]
  have hf0 : w1.frozen? ⟨b, 0, none⟩ = false := by simp [World.frozen?, h1]
  have hf1 : w1.frozen? ⟨b, 1, none⟩ = false := by simp [World.frozen?, h1]
  have HS := Lib.hid (Go.Joins.block_setCell (Go.Joins.block_setCell h1 (i := 0) (.int .u32 (moreF c l))) (i := 1) (.int .i64 (n + l.length : Nat)))
  have HG : Hid (w.grownBy ((w1.setCell ⟨b, 0, none⟩ (.int .u32 (moreF c l))).setCell ⟨b, 1, none⟩ (.int .i64 (n + l.length : Nat))) (some b)) := grown_sets hb _ _
  have HE : Hid (((n + l.length : Nat) : Int) = (n : Int) + (l.length : Int)) := Int.natCast_add _ _
  clear h1 hb H HR hc
  go_wp2
  go_returns
  exact ⟨rfl, by rw [← HE.out]; exact HS.out, by rw [← HE.out]; exact HG.out⟩

theorem bitN_range {r : Int} (h0 : 0 ≤ r) (h1 : r < 4294967296) : ∀ k, 0 ≤ bitN k r ∧ bitN k r < 4294967296
  | 0 => ⟨h0, h1⟩
  | k + 1 => by
    rw [bitN_succ]
    exact bits32_range _ _ _
theorem crcF_range {r : Int} (h0 : 0 ≤ r) (h1 : r < 4294967296) : ∀ l : List Int, 0 ≤ crcF r l ∧ crcF r l < 4294967296 := by
  intro l
  induction l generalizing r with
  | nil => exact ⟨h0, h1⟩
  | cons x l ih =>
    have hb := bits32_range BinOp.xor r (x % 4294967296)
    have h := bitN_range hb.1 hb.2 8
    exact ih h.1 h.2
theorem notF_notF {y : Int} (h0 : 0 ≤ y) (h1 : y < 4294967296) : notF (notF y) = y := by
  obtain ⟨n, rfl⟩ := Int.eq_ofNat_of_zero_le h0
  have hx : n ^^^ 4294967295 < 4294967296 := Nat.xor_lt_two_pow (n := 32) (by omega) (by decide)
  rw [notF_nat (by omega), notF_nat hx, Nat.xor_assoc, Nat.xor_self, Nat.xor_zero]
/-- More bytes behind those that were checked. -/
theorem moreF_append (c : Int) (a b : List Int) : moreF (moreF c a) b = moreF c (a ++ b) := by
  unfold moreF
  have hn : 0 ≤ notF c ∧ notF c < 4294967296 := bits32_range BinOp.xor IntKind.u32.max c
  have h := crcF_range hn.1 hn.2 a
  rw [notF_notF h.1 h.2]
  unfold crcF
  rw [List.foldl_append]

/-- A slice of slices of bytes that came in. -/
def Mat (w : World) (A : Option Addr) (l : List (List Int)) : Prop :=
  l.length ≤ 9223372036854775807 ∧ ∀ i, (h : i < l.length) → ∃ ad a c, A = some ad ∧ w.cell? (ad.add i) = some (.slice a l[i].length c) ∧ Row w .u8 a l[i] ∧ (a = none → c = 0)
theorem Mat.below {w w1 : World} {A : Option Addr} {l : List (List Int)} (h : Mat w A l) (hb : Below w.heap.size w w1) : Mat w1 A l :=
  ⟨h.1, fun i hi => by
    obtain ⟨ad, a, c, e, h1, h2, h3⟩ := h.2 i hi
    exact ⟨ad, a, c, e, cell_below hb h1, h2.below hb, h3⟩⟩

/-- What the law's loop keeps: the sum's two numbers, the bytes that have come, and all that stood before. -/
def Kp (w0 : World) (b g cap : Nat) (all : List Int) (w : World) : Prop :=
  w.heap[b]? = some (.cells #[.int .u32 (moreF 0 all), .int .i64 all.length] 44 (0, 0)) ∧ OwnRow w 5 .u8 g cap all ∧ w0.heap.size ≤ b ∧ w0.heap.size ≤ g ∧ Below w0.heap.size w0 w
theorem Kp.next {w0 w w1 : World} {b g cap : Nat} {all : List Int} (h : Kp w0 b g cap all w) (hb : Below w.heap.size w w1) : Kp w0 b g cap all w1 :=
  ⟨(hb.block b (lt_of_block h.1)).trans h.1, h.2.1.below hb, h.2.2.1, h.2.2.2.1, below_step h.2.2.2.2 hb⟩
theorem Kp.ne {w0 w : World} {b g cap : Nat} {all : List Int} (h : Kp w0 b g cap all w) : g ≠ b := by
  intro e
  obtain ⟨cur, hh, _⟩ := h.2.1
  have h1 := h.1
  rw [← e, hh] at h1
  injection h1 with h1
  injection h1 with _ h2
  exact absurd h2 (by decide)

theorem Kp.appended {w0 w3 w4 : World} {b g g4 cp4 : Nat} {all li : List Int} (hb : w0.heap.size ≤ g) (hne : g ≠ b) (HB3 : Below w0.heap.size w0 w3) (HH3 : w3.heap[b]? = some (.cells #[.int .u32 (moreF 0 (all ++ li)), .int .i64 ((all.length + li.length : Nat) : Int)] 44 (0, 0)))
    (hv4 : OwnRow w4 5 .u8 g4 cp4 (all ++ li)) (hg4 : w0.heap.size ≤ g4) (hgr : w3.grownBy w4 (some g)) (hbb : w0.heap.size ≤ b := by exact Nat.le_refl _) : Kp w0 b g4 cp4 (all ++ li) w4 := by
  refine ⟨?_, hv4, hbb, hg4, HB3.grown hgr HB3.size (fun k hk => by injection hk with hk; omega)⟩
  rw [hgr.block b (lt_of_block HH3) (fun h => hne (by injection h with h; exact h.symm)), HH3, List.length_append]

/-- The bytes of the first i parts. -/
def flatTo (l : List (List Int)) (i : Nat) : List Int := (l.take i).flatten
theorem flatTo_succ (l : List (List Int)) (i : Nat) (h : i < l.length) : flatTo l (i + 1) = flatTo l i ++ l[i] := by
  unfold flatTo
  rw [List.take_succ_eq_append_getElem h, List.flatten_append]
  simp

set_option maxHeartbeats 1600000 in
theorem crcParts_main (A : Option Addr) (cap : Nat) (l : List (List Int)) (w : World) (hr : Mat w A l) (hm : l.length ≤ 30) :
    Calls Try.prog 8 #[.slice A l.length cap] w fun e w' => e = .returned (.bool true) ∧ Below w.heap.size w w' := by
  have HR := Lib.hid hr
  clear hr
  go_enter Try.func8, Try.ntmps8
  go_wp2
  have HK : Hid (Kp w w.heap.size (w.heap.size + 1) 0 (flatTo l 0) ((w.alloc (.cells #[.int .u32 0, .int .i64 0] 44)).alloc (.cells #[] 5))) := by
    refine ⟨?_, ⟨#[], ?_, Nat.le_refl _, by decide, rfl, rfl⟩, Nat.le_refl _, by omega, ((Below.refl _ w).alloc (Nat.le_refl _) _).alloc (by simp) _⟩
    · rw [show moreF 0 (flatTo l 0) = 0 from moreF_nil, Below.heap_alloc _ _ _ (by simp)]
      exact heap_alloc_new _ _
    · have := heap_alloc_new (w.alloc (.cells #[.int .u32 0, .int .i64 0] 44)) (.cells #[] 5)
      rwa [World.size_alloc] at this
  go_loopw [4, 5, 6] (fun v4 v5 v6 wr => ∃ (i g cp : Nat), i ≤ l.length ∧ v6 = .int .i64 i ∧ v5 = .int .u32 (moreF 0 (flatTo l i)) ∧ v4 = .slice (some ⟨g, 0, none⟩) (flatTo l i).length cp ∧ (flatTo l i).length ≤ 100 * i ∧ Hid (Kp w w.heap.size g cp (flatTo l i) wr)) (fun _ _ v _ => l.length - (intOf v).toNat)
  case atStart => exact ⟨0, _, _, by omega, rfl, by rw [show moreF 0 (flatTo l 0) = 0 from moreF_nil], rfl, Nat.le_refl _, HK⟩
  case round =>
    clear HK
    obtain ⟨i, g, cp, hi, rfl, rfl, rfl, hlen, HK⟩ := hrel
    by_cases hlt : i < l.length
    · obtain ⟨ad, a, c, rfl, hc0, hrow, hnil⟩ := HR.out.2 i hlt
      have hc : wr.cell? (ad.add i) = some (.slice a l[i].length c) := cell_below HK.out.2.2.2.2 hc0
      have HC0 := Lib.hid hc0
      clear hc0
      have HF := Lib.hid (flatTo_succ l i hlt)
      have HROW := Lib.hid hrow
      have HNIL := Lib.hid hnil
      clear hrow hnil
      generalize l[i] = li at *
      by_cases h100 : 100 < li.length
      · have hli := HROW.out.1
        go_wp2_with fail
        refine (live_any _).mono ?_
        rintro e w2 ⟨rfl, hb⟩
        have HB2 := Lib.hid (below_step HK.out.2.2.2.2 hb)
        clear hb
        go_wp2
        go_ret
        exact ⟨rfl, HB2.out⟩
      · have hl2 : li.length ≤ 100 := by omega
        generalize flatTo l i = all at *
        go_wp2_with fail
        refine (write_any w.heap.size _ all.length a c li _ HK.out.1 (HROW.out.below HK.out.2.2.2.2) (by omega) (by omega)).mono ?_
        rw [moreF_append]
        rintro e w2 ⟨rfl, hh2, hg2⟩
        have HB2 := Lib.hid (HK.out.2.2.2.2.grown hg2 HK.out.2.2.2.2.size (fun k hk => by injection hk with hk; omega))
        have HV2 := Lib.hid (HK.out.2.1.kept (hg2.block g HK.out.2.1.lt (fun h => HK.out.ne (by injection h))))
        have HH2 := Lib.hid hh2
        have HGG := Lib.hid HK.out.2.2.2.1
        have hc2 := cell_below HB2.out HC0.out
        have hgb := Lib.hid HK.out.ne
        clear hh2 hg2 hc HK
        go_wp2_with fail
        refine (more_any _ a c li _ (HROW.out.below HB2.out)).mono ?_
        rw [moreF_append]
        rintro e w3 ⟨rfl, hb3⟩
        have HB3 := Lib.hid (below_step HB2.out hb3)
        have HV3 := Lib.hid (HV2.out.below hb3)
        have HH3 := Lib.hid ((hb3.block _ (lt_of_block HH2.out)).trans HH2.out)
        have hc3 := cell_below HB3.out HC0.out
        clear hb3 hc2 HH2 HV2 HB2
        go_wp2_with (at_builtin; refine wpList_append_rows rfl _ _ 22 rfl 5 .u8 1 Try.underlying22 info5 (by decide) w.heap.size g cp all li rfl HV3.out HGG.out HB3.out.size a c rfl (HROW.out.below HB3.out) HNIL.out (by omega) ?_; intro g4 cp4 w4 hv4 hg4 hgr4 _; have HK4 : Hid (Kp w w.heap.size g4 cp4 (all ++ li) w4) := Kp.appended HGG.out hgb.out HB3.out HH3.out hv4 hg4 hgr4; clear hv4 hg4 hgr4)
        have hll : (all ++ li).length = all.length + li.length := List.length_append
        have HLL := Lib.hid hll
        clear hll hc3 HH3 HV3 HB3
        refine (value_any w.heap.size _ _ _ HK4.out.1).mono ?_
        rintro e w5 ⟨rfl, rfl⟩
        go_wp2_with fail
        rw [← HLL.out]
        refine (of_any _ cp4 (all ++ li) _ HK4.out.2.1.row).mono ?_
        rintro e w6 ⟨rfl, hb6⟩
        have HK6 := Lib.hid (HK4.out.next hb6)
        clear hb6 HK4
        go_wp2_with fail
        refine (value_any w.heap.size _ _ _ HK6.out.1).mono ?_
        rintro e w7 ⟨rfl, rfl⟩
        go_wp2_with fail
        refine (len_any w.heap.size _ _ _ HK6.out.1).mono ?_
        rintro e w8 ⟨rfl, rfl⟩
        generalize all ++ li = both at *
        have hne : (((both.length : Nat) : Int) != (all.length : Int) + (li.length : Int)) = false := by
          rw [bne_eq_false_iff_eq]
          have := HLL.out
          omega
        go_wp2
        go_roundw
        case rel => exact ⟨i + 1, g4, cp4, by omega, by go_num, by rw [HF.out], by rw [HF.out, HLL.out], by rw [HF.out]; have := HLL.out; omega, by rw [HF.out]; exact HK6⟩
        case measure => simp [intOf]; omega
    · obtain rfl : i = l.length := by omega
      go_wp2_with fail
      refine (live_any _).mono ?_
      rintro e w2 ⟨rfl, hb⟩
      have HB2 := Lib.hid (below_step HK.out.2.2.2.2 hb)
      clear hb
      go_wp2
      go_ret
      exact ⟨rfl, HB2.out⟩

set_option maxHeartbeats 400000 in
theorem crcParts_far (A : Option Addr) (len cap : Nat) (w : World) (hm : 30 < len) (h : len ≤ 9223372036854775807) :
    Calls Try.prog 8 #[.slice A len cap] w fun e w' => e = .returned (.bool true) ∧ Below w.heap.size w w' := by
  go_enter Try.func8, Try.ntmps8
  go_wp2_with fail
  refine (live_any _).mono ?_
  rintro e w2 ⟨rfl, hb⟩
  have HB2 := Lib.hid hb
  clear hb
  go_wp2
  go_ret
  exact ⟨rfl, HB2.out⟩
theorem crcParts_walk (A : Option Addr) (cap : Nat) (l : List (List Int)) (w : World) (hr : Mat w A l) :
    Calls Try.prog 8 #[.slice A l.length cap] w fun e w' => e = .returned (.bool true) ∧ Below w.heap.size w w' := by
  by_cases h : l.length ≤ 30
  · exact crcParts_main A cap l w hr h
  · exact crcParts_far A l.length cap w (by omega) hr.1

open Go.WideShapes Go.ChangeShapes in
/-- A slice of slices of bytes that came in. -/
theorem open42 {H : Type} {enc : TypeId × Value → H} {w : World} {base : Nat} {sp : Nat → Bool} {held : Bool} {r : Reach} {b0 : Nat} {v : Value} {d : DataW H} {ps : List MemPlace} (hval : Value.okWide Try.prog w r b0 42 v) (hd : DataW.Trod enc Try.prog w base sp held 42 v d ps) :
    ∃ (A : Option Addr) (cap : Nat) (l : List (List Int)), v = .slice A l.length cap ∧ Mat w A l := by
  obtain ⟨a, len, cap, rfl⟩ := okWide_slice Try.underlying42 hval
  obtain ⟨fuel, hf⟩ := hd
  rcases Go.Deep.open_slice1 Try.underlying42 (by kernel_rfl) hf with ⟨hcs, _⟩ | ⟨x, len', cap', m, n, V, D, Pl, hcs, hb, hl, hm, hmm, hx, hi⟩
  · simp [Value.cells] at hcs
    obtain ⟨rfl, rfl, rfl⟩ := hcs
    exact ⟨none, 0, [], rfl, ⟨by simp, fun i h => absurd h (Nat.not_lt_zero i)⟩⟩
  · simp [Value.cells] at hcs
    obtain ⟨rfl, rfl, rfl⟩ := hcs
    have hlm : len ≤ m := by rw [hmm]; split <;> omega
    have hlen : len ≤ 9223372036854775807 := by unfold maxLen at hm; omega
    have each : ∀ i, ∃ p : List Int, i < len → ∃ a c, w.cell? (x.add i) = some (.slice a p.length c) ∧ Row w .u8 a p ∧ (a = none → c = 0) := by
      intro i
      by_cases h : i < len
      · obtain ⟨hc, htr⟩ := hi i (by omega)
        rcases open_ints Try.underlying22 Try.underlying5 (by kernel_rfl) htr with ⟨hcs, _⟩ | ⟨x2, l2, c2, zs, hcs, _, hl2, hm2, hz2, _, hcell, hwz⟩
        · injection hcs with hcs
          exact ⟨[], fun _ => ⟨none, 0, by rw [hc, hcs]; rfl, Row.nil _ _, fun _ => rfl⟩⟩
        · injection hcs with hcs
          have hz3 : l2 ≤ zs.length := by rw [hz2]; split <;> omega
          have hle : (zs.take l2).length = l2 := by simp; omega
          refine ⟨zs.take l2, fun _ => ⟨some x2, c2, by rw [hc, hcs, hle], ⟨by rw [hle]; unfold maxLen at hm2; omega, fun j hj => ⟨x2, rfl, ?_⟩⟩, fun h => by cases h⟩⟩
          rw [hle] at hj
          rw [hcell j (by omega)]
          simp [List.getD, List.getElem?_eq_getElem (show j < zs.length by omega)]
      · exact ⟨[], fun h' => absurd h' h⟩
    obtain ⟨f, hf⟩ := Classical.axiomOfChoice each
    refine ⟨some x, cap, (List.range len).map f, by simp, ⟨by simpa using hlen, fun i h => ?_⟩⟩
    have h' : i < len := by simpa using h
    obtain ⟨a, c, h1, h2, h3⟩ := hf i h'
    refine ⟨x, a, c, rfl, ?_, ?_, h3⟩
    · simp only [List.getElem_map, List.getElem_range]; exact h1
    · simp only [List.getElem_map, List.getElem_range]; exact h2
end Go.Proofs.Ytcpicgjelohhlaa
