/- The check of crc and the reference's are one: both are the register behind a stream of bits. -/
import Derived.Test.YtcpicgjelohhlaaCrcRef
import Derived.Test.YtcpicgjelohhlaaCrcNat
namespace Go.Proofs.Ytcpicgjelohhlaa
open Go.RowKit

theorem and_one (n : Nat) (h : n < 4294967296) : bits BinOp.and IntKind.u32 (n : Int) 1 = ((n % 2 : Nat) : Int) := by
  have := u32_and_nat n 1 h (by decide)
  rw [Nat.and_one_is_mod] at this
  exact this
theorem bitF_nat {n : Nat} (h : n < 4294967296) : bitF (n : Int) = (tN n : Int) := by
  unfold bitF tN
  rw [and_one n h]
  have e : (-((n % 2 : Nat) : Int) % 4294967296) = ((if n % 2 = 1 then 4294967295 else 0 : Nat) : Int) := by
    rcases Nat.mod_two_eq_zero_or_one n with h | h <;> rw [h] <;> rfl
  rw [e]
  have e2 : bits BinOp.and IntKind.u32 ((if n % 2 = 1 then 4294967295 else 0 : Nat) : Int) 3988292384 = ((if n % 2 = 1 then 3988292384 else 0 : Nat) : Int) := by
    split
    · exact (u32_and_nat 4294967295 3988292384 (by decide) (by decide)).trans (by decide)
    · exact (u32_and_nat 0 3988292384 (by decide) (by decide)).trans (by decide)
  rw [e2]
  have e3 : ((n : Int) / 2) = ((n / 2 : Nat) : Int) := by omega
  rw [e3]
  exact u32_xor_nat _ _ (by omega) (by split <;> decide)
theorem bitN_nat {n : Nat} (h : n < 4294967296) : ∀ k, bitN k (n : Int) = (tK k n : Int)
  | 0 => rfl
  | k + 1 => by
    show bitF (bitN k n) = _
    rw [bitN_nat h k, bitF_nat (tK_lt h k)]
    rfl
theorem byteF_nat {r c : Nat} (h : r < 4294967296) (hc : c < 256) : byteF (r : Int) (c : Int) = (tK 8 (r ^^^ c) : Int) := by
  unfold byteF
  have e : ((c : Int) % 4294967296) = (c : Int) := by omega
  rw [e, u32_xor_nat r c h (by omega), bitN_nat]
  exact Nat.xor_lt_two_pow (n := 32) (by omega) (by omega)

/-- The bits of bytes: byte by byte, of each the lowest first. -/
def bitsOf (bs : List Nat) (i : Nat) : Bool := (bs.getD (i / 8) 0).testBit (i % 8)
theorem crcF_nat (bs : List Nat) (hb : ∀ b ∈ bs, b < 256) {x : Nat} (hx : x < 4294967296) : ∀ n, n ≤ bs.length → crcF (x : Int) ((bs.map Int.ofNat).take n) = (rS (bitsOf bs) x (8 * n) : Int)
  | 0, _ => rfl
  | n + 1, h => by
    have hn : n < bs.length := h
    rw [crcF_take _ _ n (by simpa using hn), crcF_nat bs hb hx n (by omega)]
    have e : (bs.map Int.ofNat)[n]'(by simpa using hn) = ((bs[n] : Nat) : Int) := by simp
    have hlt : bs[n] < 256 := hb _ (List.getElem_mem hn)
    rw [e, byteF_nat (rS_lt hx _) hlt, Nat.mul_succ, rS_window (bitsOf bs) x (8 * n) bs[n] 8]
    · congr 3
      omega
    · intro i hi
      unfold bitsOf
      have h1 : (8 * n + i) / 8 = n := by omega
      have h2 : (8 * n + i) % 8 = i := by omega
      rw [h1, h2, List.getD_eq_getElem?_getD, List.getElem?_eq_getElem hn]
      rfl

theorem shift_bit (b i : Nat) (hb : b < 256) : (bits BinOp.and IntKind.u8 ((b : Int) / 2 ^ i) 1 == 1) = b.testBit i := by
  have e : ((b : Int) / 2 ^ i) = ((b / 2 ^ i : Nat) : Int) := by simp
  have hlt : b / 2 ^ i < 256 := Nat.lt_of_le_of_lt (Nat.div_le_self _ _) hb
  have := u8_and_nat (b / 2 ^ i) 1 hlt (by decide)
  rw [Nat.and_one_is_mod] at this
  rw [e, show (1 : Int) = ((1 : Nat) : Int) from rfl, this, Nat.testBit_eq_decide_div_mod_eq]
  rcases Nat.mod_two_eq_zero_or_one (b / 2 ^ i) with h | h <;> rw [h] <;> rfl
theorem bitAt_nat (bs : List Nat) (hb : ∀ b ∈ bs, b < 256) (i : Nat) (hi : i / 8 < bs.length) : bitAt (bs.map Int.ofNat) i = bitsOf bs i := by
  rw [← bitAt_eq _ i (by simpa using hi)]
  unfold bitsOf
  have e : (bs.map Int.ofNat)[i / 8]'(by simpa using hi) = ((bs[i / 8] : Nat) : Int) := by simp
  rw [e, shift_bit _ _ (hb _ (List.getElem_mem hi)), List.getD_eq_getElem?_getD, List.getElem?_eq_getElem hi]
  rfl
theorem refStep_nat {r : Nat} (h : r < 4294967296) (b : Bool) : refStep (r : Int) b = (tN (r ^^^ b.toNat) : Int) := by
  have hd : (r ^^^ b.toNat) / 2 = r / 2 := by rw [xor_div2]; cases b <;> simp
  have hm : (r ^^^ b.toNat) % 2 = (r % 2) ^^^ b.toNat := by rw [xor_mod2]; cases b <;> rfl
  unfold refStep tN
  rw [hd, hm]
  have e : ((r : Int) / 2) = ((r / 2 : Nat) : Int) := by omega
  have e2 : ((r : Int) % 2) = ((r % 2 : Nat) : Int) := by omega
  rw [e, e2]
  have hx := u32_xor_nat (r / 2) 3988292384 (by omega) (by decide)
  have hx' : bits BinOp.xor IntKind.u32 ((r / 2 : Nat) : Int) 3988292384 = ((r / 2 ^^^ 3988292384 : Nat) : Int) := hx
  rcases Nat.mod_two_eq_zero_or_one r with h | h <;> rw [h] <;> cases b <;> simp
  · exact hx'
  · exact hx'
theorem refTo_nat (bs : List Nat) (hb : ∀ b ∈ bs, b < 256) {c : Nat} (hc : c < 4294967296) : ∀ i, i ≤ 8 * bs.length → refTo (bs.map Int.ofNat) (c : Int) i = (rS (bitsOf bs) (c ^^^ 4294967295) i : Int)
  | 0, _ => u32_xor_nat c 4294967295 hc (by decide)
  | i + 1, h => by
    show refStep (refTo _ _ i) _ = _
    rw [refTo_nat bs hb hc i (by omega), refStep_nat (rS_lt (Nat.xor_lt_two_pow (n := 32) (by omega) (by decide)) _), bitAt_nat bs hb i (by omega)]
    rfl
theorem notF_nat {c : Nat} (hc : c < 4294967296) : notF (c : Int) = ((c ^^^ 4294967295 : Nat) : Int) := by
  unfold notF
  have e : IntKind.u32.max = ((4294967295 : Nat) : Int) := by decide
  rw [e, u32_xor_nat _ _ (by decide) hc, Nat.xor_comm]

/-- The check of bytes behind a check c. -/
def checkN (c : Nat) (bs : List Nat) : Nat := rS (bitsOf bs) (c ^^^ 4294967295) (8 * bs.length) ^^^ 4294967295
theorem moreF_nat {c : Nat} (hc : c < 4294967296) (bs : List Nat) (hb : ∀ b ∈ bs, b < 256) : moreF (c : Int) (bs.map Int.ofNat) = (checkN c bs : Int) := by
  have hx : c ^^^ 4294967295 < 4294967296 := Nat.xor_lt_two_pow (n := 32) (by omega) (by decide)
  unfold moreF checkN
  have e : (bs.map Int.ofNat) = (bs.map Int.ofNat).take bs.length := by simp [List.take_of_length_le]
  rw [notF_nat hc, e, crcF_nat bs hb hx bs.length (Nat.le_refl _), notF_nat (rS_lt hx _)]
theorem refMore_nat {c : Nat} (hc : c < 4294967296) (bs : List Nat) (hb : ∀ b ∈ bs, b < 256) : refMore (c : Int) (bs.map Int.ofNat) = (checkN c bs : Int) := by
  have hx : c ^^^ 4294967295 < 4294967296 := Nat.xor_lt_two_pow (n := 32) (by omega) (by decide)
  unfold refMore checkN
  rw [List.length_map, refTo_nat bs hb hc _ (Nat.le_refl _)]
  exact u32_xor_nat _ 4294967295 (rS_lt hx _) (by decide)

/-- A slice of bytes as numbers from 0 on. -/
theorem bytes_nat (l : List Int) (h : ∀ x ∈ l, (Lit.int .u8 x).wf = true) : ∃ bs : List Nat, l = bs.map Int.ofNat ∧ ∀ b ∈ bs, b < 256 := by
  induction l with
  | nil => exact ⟨[], rfl, fun b hb => by simp at hb⟩
  | cons x l ih =>
    obtain ⟨bs, rfl, hb⟩ := ih (fun y hy => h y (List.mem_cons_of_mem _ hy))
    have hx := h x List.mem_cons_self
    have hx' : 0 ≤ x ∧ x < 256 := by
      have e1 : IntKind.u8.min = 0 := by decide
      have e2 : IntKind.u8.max = 255 := by decide
      simp [Lit.wf, e1, e2] at hx; omega
    obtain ⟨n, rfl⟩ := Int.eq_ofNat_of_zero_le hx'.1
    refine ⟨n :: bs, rfl, fun b hb' => ?_⟩
    rcases List.mem_cons.1 hb' with rfl | hb'
    · omega
    · exact hb b hb'
theorem moreF_ref (c : Int) (h0 : 0 ≤ c) (h1 : c < 4294967296) (l : List Int) (h : ∀ x ∈ l, (Lit.int .u8 x).wf = true) : moreF c l = refMore c l := by
  obtain ⟨bs, rfl, hb⟩ := bytes_nat l h
  obtain ⟨n, rfl⟩ := Int.eq_ofNat_of_zero_le h0
  exact (moreF_nat (by omega) bs hb).trans (refMore_nat (by omega) bs hb).symm
end Go.Proofs.Ytcpicgjelohhlaa
