/- The walk of the reference's Turn: bytes of which some bits are turned. -/
import Derived.Test.YtcpicgjelohhlaaCrcEq
namespace Go.Proofs.Ytcpicgjelohhlaa
open Go.RowKit

theorem info5 : (Try.prog.info? 5).map (fun i => (i.zero, i.size, i.bytes)) = some (some (.int .u8 0), 1, 1) := by kernel_rfl
theorem own_empty (w : World) : (w.alloc (.cells #[] 5)).ownsRow w.heap.size 5 1 (.slice (some ⟨w.heap.size, 0, none⟩) 0 0) 0 [] :=
  ⟨rfl, .inr ⟨w.heap.size, 0, #[], rfl, Nat.le_refl _, heap_alloc_new _ _, Nat.le_refl _, by decide, rfl, rfl⟩⟩

/-- The bytes behind i rounds of Turn. -/
def turnB (bs : List Nat) (a n : Nat) : Nat → List Nat
  | 0 => bs
  | i + 1 => if n.testBit i = true ∧ a + i < 8 * bs.length then (turnB bs a n i).set ((a + i) / 8) ((turnB bs a n i).getD ((a + i) / 8) 0 ^^^ 2 ^ ((a + i) % 8)) else turnB bs a n i
theorem turnB_length (bs : List Nat) (a n : Nat) : ∀ i, (turnB bs a n i).length = bs.length
  | 0 => rfl
  | i + 1 => by
    unfold turnB
    split
    · rw [List.length_set, turnB_length bs a n i]
    · exact turnB_length bs a n i
theorem two_pow_mod8 (k : Nat) : 2 ^ (k % 8) < 256 := by
  have h : k % 8 < 8 := Nat.mod_lt _ (by decide)
  exact Nat.pow_lt_pow_of_lt (by decide) h
theorem getD_lt {bs : List Nat} (hb : ∀ b ∈ bs, b < 256) (j : Nat) : bs.getD j 0 < 256 := by
  by_cases h : j < bs.length
  · rw [List.getD_eq_getElem?_getD, List.getElem?_eq_getElem h]
    exact hb _ (List.getElem_mem h)
  · rw [List.getD_eq_getElem?_getD, List.getElem?_eq_none (by omega)]
    decide
theorem turnB_lt {bs : List Nat} (hb : ∀ b ∈ bs, b < 256) (a n : Nat) : ∀ i, ∀ b ∈ turnB bs a n i, b < 256
  | 0 => hb
  | i + 1 => by
    have ih := turnB_lt hb a n i
    unfold turnB
    split
    · intro b hb'
      rcases List.mem_or_eq_of_mem_set hb' with h | rfl
      · exact ih b h
      · exact Nat.xor_lt_two_pow (n := 8) (getD_lt ih _) (two_pow_mod8 _)
    · exact ih
theorem shift_bit32 (b i : Nat) (hb : b < 4294967296) : (bits BinOp.and IntKind.u32 ((b : Int) / 2 ^ i) 1 == 1) = b.testBit i := by
  have e : ((b : Int) / 2 ^ i) = ((b / 2 ^ i : Nat) : Int) := by simp
  have hlt : b / 2 ^ i < 4294967296 := Nat.lt_of_le_of_lt (Nat.div_le_self _ _) hb
  have := u32_and_nat (b / 2 ^ i) 1 hlt (by decide)
  rw [Nat.and_one_is_mod] at this
  rw [e, show (1 : Int) = ((1 : Nat) : Int) from rfl, this, Nat.testBit_eq_decide_div_mod_eq]
  rcases Nat.mod_two_eq_zero_or_one (b / 2 ^ i) with h | h <;> rw [h] <;> rfl
theorem turn_xor (x k : Nat) (hx : x < 256) : bits BinOp.xor IntKind.u8 (x : Int) (2 ^ (k % 8) % 256) = ((x ^^^ 2 ^ (k % 8) : Nat) : Int) := by
  have h := two_pow_mod8 k
  have e : ((2 : Int) ^ (k % 8) % 256) = ((2 ^ (k % 8) : Nat) : Int) := by
    have e2 : ((2 : Int) ^ (k % 8)) = ((2 ^ (k % 8) : Nat) : Int) := (Int.natCast_pow 2 (k % 8)).symm
    rw [e2]
    generalize 2 ^ (k % 8) = y at *
    exact Int.emod_eq_of_lt (Int.natCast_nonneg _) (by omega)
  rw [e]
  exact u8_xor_nat x _ hx h

set_option maxHeartbeats 400000 in
theorem turn_any (A : Option Addr) (cap : Nat) (bs : List Nat) (hbs : ∀ b ∈ bs, b < 256) (a n : Nat) (w : World) (hr : Row w .u8 A (bs.map Int.ofNat)) (h0 : 0 < bs.length) (hm : bs.length ≤ 1000) (ha : a < 8 * bs.length) (hn : n < 4294967296) :
    Calls Try.prog 15 #[.slice A bs.length cap, .int .i64 a, .int .u32 n] w fun e w' => ∃ g cp, e = .returned (.slice (some ⟨g, 0, none⟩) bs.length cp) ∧ w.heap.size ≤ g ∧ OwnRow w' 5 .u8 g cp ((turnB bs a n 32).map Int.ofNat) ∧ Below w.heap.size w w' := by
  obtain ⟨ad, rfl, -⟩ := hr.2 0 (by simpa using h0)
  obtain ⟨i0, hi, hz0, hz1, hz2⟩ := info_parts info5
  have HI := Lib.hid (And.intro hi (And.intro hz0 (And.intro hz1 hz2)))
  clear hi hz0 hz1 hz2
  have HR := Lib.hid hr
  have HBS := Lib.hid hbs
  clear hr hbs
  go_enter Try.func15, Try.ntmps15
  go_wp2_with (at_builtin; refine wpList_append_own _ rfl _ _ 22 rfl w.heap.size 5 i0 (.int .u8 0) 1 1 Try.underlying22 HI.out.1 HI.out.2.1 HI.out.2.2.1 HI.out.2.2.2 rfl (by decide) _ 0 [] rfl (own_empty w) ad bs.length cap ((bs.map Int.ofNat).map (Value.int .u8)) rfl (by simp) (HR.out.alloc _).news (ints_one _ _) (by unfold maxLen; omega) (by omega) (by simp) ?_; intro v w1 hown hgrow _; (obtain ⟨-, g, cp, rfl, hg, hv⟩ := OwnRow.of hown (by omega)); have HB : Below w.heap.size w w1 := ((Below.refl _ w).alloc (Nat.le_refl _) _).grown hgrow (by simp) (by simp [Act.eval, Value.ownBlock]); have HV := Lib.hid hv; clear hv hown hgrow; rw [Nat.zero_add])
  go_loopw [8] (fun v wr => ∃ i : Nat, i ≤ 32 ∧ v = .int .i64 i ∧ Hid (OwnRow wr 5 .u8 g cp ((turnB bs a n i).map Int.ofNat)) ∧ Below w.heap.size w wr) (fun v _ => 32 - (intOf v).toNat)
  case atStart => exact ⟨0, by omega, rfl, HV, HB⟩
  case round =>
    clear HV HB
    obtain ⟨i, hi, rfl, HV, HB⟩ := hrel
    by_cases hlt : i < 32
    · by_cases hb : (bits BinOp.and IntKind.u32 (n / 2 ^ i : Int) 1 == 1) = true
      · have HN : Hid (n.testBit i = true) := by rw [← shift_bit32 n i hn]; exact hb
        by_cases hl : a + i < 8 * bs.length
        · have hj : (a + i) / 8 < (turnB bs a n i).length := by rw [turnB_length]; omega
          have hc0 := HV.out.getElem ((a + i) / 8) (by simpa using hj)
          have hlt8 := getD_lt (turnB_lt HBS.out a n i) ((a + i) / 8)
          have HX := Lib.hid (turn_xor ((turnB bs a n i).getD ((a + i) / 8) 0) (a + i) hlt8)
          have HT : Hid (turnB bs a n (i + 1) = (turnB bs a n i).set ((a + i) / 8) ((turnB bs a n i).getD ((a + i) / 8) 0 ^^^ 2 ^ ((a + i) % 8))) := by
            show turnB bs a n (i + 1) = _
            rw [turnB, if_pos ⟨HN.out, hl⟩]
          have hc : wr.cell? ⟨g, (a + i) / 8, none⟩ = some (.int .u8 ((turnB bs a n i).getD ((a + i) / 8) 0 : Nat)) := by
            rw [hc0]
            simp [List.getD_eq_getElem?_getD, List.getElem?_eq_getElem hj]
          have hf : wr.frozen? ⟨g, (a + i) / 8, none⟩ = false := HV.out.free _
          clear hc0 hlt8
          generalize (turnB bs a n i).getD ((a + i) / 8) 0 = x at *
          have HS : Hid (OwnRow (wr.setCell ⟨g, (a + i) / 8, none⟩ (.int .u8 (bits BinOp.xor IntKind.u8 (x : Int) (2 ^ ((a + i) % 8) % 256)))) 5 .u8 g cp ((turnB bs a n (i + 1)).map Int.ofNat)) := by
            rw [HT.out, HX.out, List.map_set]
            exact HV.out.set _ _
          clear HT HX HV hj
          have HB2 : Below w.heap.size w (wr.setCell ⟨g, (a + i) / 8, none⟩ (.int .u8 (bits BinOp.xor IntKind.u8 (x : Int) (2 ^ ((a + i) % 8) % 256)))) := HB.setCell hg _
          go_wp2
          go_roundw
          case rel => exact ⟨i + 1, by omega, by go_num, HS, HB2⟩
          case measure => simp [intOf]; omega
        · have HT : Hid (turnB bs a n (i + 1) = turnB bs a n i) := by
            show turnB bs a n (i + 1) = _
            rw [turnB, if_neg (fun h => hl h.2)]
          go_wp2
          go_roundw
          case rel => exact ⟨i + 1, by omega, by go_num, by rw [HT.out]; exact HV, HB⟩
          case measure => simp [intOf]; omega
      · have HT : Hid (turnB bs a n (i + 1) = turnB bs a n i) := by
          show turnB bs a n (i + 1) = _
          rw [turnB, if_neg (fun h => hb (by rw [shift_bit32 n i hn]; exact h.1))]
        go_wp2
        go_roundw
        case rel => exact ⟨i + 1, by omega, by go_num, by rw [HT.out]; exact HV, HB⟩
        case measure => simp [intOf]; omega
    · obtain rfl : i = 32 := by omega
      go_wp2
      go_ret
      exact ⟨g, cp, rfl, hg, HV.out, HB⟩
end Go.Proofs.Ytcpicgjelohhlaa
