/- The walks of crc: step, each, More, Of, live. -/
import Derived.Test.YtcpicgjelohhlaaBase
namespace Go.Proofs.Ytcpicgjelohhlaa
open Go.RowKit

def bitF (r : Int) : Int := bits BinOp.xor IntKind.u32 (r / 2) (bits BinOp.and IntKind.u32 (-bits BinOp.and IntKind.u32 r 1 % 4294967296) 3988292384)
def bitN : Nat → Int → Int | 0, r => r | n+1, r => bitF (bitN n r)
def byteF (r c : Int) : Int := bitN 8 (bits BinOp.xor IntKind.u32 r (c % 4294967296))
def crcF (r : Int) (l : List Int) : Int := l.foldl byteF r
theorem bitN_succ (k : Nat) (r : Int) : bitN (k + 1) r = bits BinOp.xor IntKind.u32 (bitN k r / 2) (bits BinOp.and IntKind.u32 (-bits BinOp.and IntKind.u32 (bitN k r) 1 % 4294967296) 3988292384) := rfl


theorem crcF_take (r : Int) (l : List Int) (k : Nat) (h : k < l.length) : crcF r (l.take (k + 1)) = byteF (crcF r (l.take k)) l[k] := by
  unfold crcF
  rw [List.take_succ_eq_append_getElem h, List.foldl_append]
  rfl

set_option maxHeartbeats 400000 in
theorem step_any (b : Nat) (r c : Int) (w : World) (h : w.heap[b]? = some (.cells #[.int .u32 r] 51 (0, 0))) :
    Calls Try.prog 26 #[.pointer (some ⟨b, 0, none⟩), .int .u8 c] w fun e w' => e = .returned (.tuple #[]) ∧ w'.heap[b]? = some (.cells #[.int .u32 (byteF r c)] 51 (0, 0)) ∧ Below b w w' := by
  have hc := cell_of_one h
  have hf := free_of_one h
  have H := Lib.hid h
  clear h
  go_enter Try.func26, Try.ntmps26
  go_wp2
  have Hw1 : Hid ((w.setCell ⟨b, 0, none⟩ (.int .u32 (bits BinOp.xor IntKind.u32 r (c % 4294967296)))).heap[b]? = some (.cells #[.int .u32 (bitN 0 (bits BinOp.xor IntKind.u32 r (c % 4294967296)))] 51 (0, 0))) := one_setCell H.out
  have Hb1 : Below b w (w.setCell ⟨b, 0, none⟩ (.int .u32 (bits BinOp.xor IntKind.u32 r (c % 4294967296)))) := (Below.refl b w).setCell (Nat.le_refl b) _
  generalize (w.setCell ⟨b, 0, none⟩ (.int .u32 (bits BinOp.xor IntKind.u32 r (c % 4294967296)))) = w1 at *
  clear hc hf
  go_loopw [12] (fun v wr => ∃ k : Nat, k ≤ 8 ∧ v = .int .i64 k ∧ Hid (wr.heap[b]? = some (.cells #[.int .u32 (bitN k (bits BinOp.xor IntKind.u32 r (c % 4294967296)))] 51 (0, 0))) ∧ Below b w wr) (fun v _ => 8 - (intOf v).toNat)
  case atStart => exact ⟨0, by omega, rfl, Hw1, Hb1⟩
  case round =>
    clear Hw1 Hb1
    obtain ⟨k, hk, rfl, hv, hb⟩ := hrel
    have hc := cell_of_one hv.out
    have hf := free_of_one hv.out
    by_cases hlt : k < 8
    · go_wp2
      go_roundw
      case rel => exact ⟨k + 1, by omega, by go_num, one_setCell (one_setCell hv.out), (hb.setCell (Nat.le_refl _) _).setCell (Nat.le_refl _) _⟩
      case measure => simp [intOf]; omega
    · obtain rfl : k = 8 := by omega
      go_wp2
      go_end0
      exact ⟨rfl, hv.out, hb⟩

set_option maxHeartbeats 400000 in
theorem each_any (b : Nat) (r : Int) (A : Option Addr) (cap : Nat) (l : List Int) (w : World) (h : w.heap[b]? = some (.cells #[.int .u32 r] 51 (0, 0))) 
    (hr : Row w .u8 A l) (hl : ∀ ad, A = some ad → 0 < l.length → ad.block < b) :
    Calls Try.prog 25 #[.func (.func 26) #[.pointer (some ⟨b, 0, none⟩)] #[], .slice A l.length cap] w fun e w' => e = .returned (.tuple #[]) ∧ w'.heap[b]? = some (.cells #[.int .u32 (crcF r l)] 51 (0, 0)) ∧ Below b w w' := by
  have HR := Lib.hid hr
  have HL := Lib.hid hl
  have hmx : l.length ≤ 9223372036854775807 := hr.1
  have H := Lib.hid h
  clear hl hr h
  go_enter Try.func25, Try.ntmps25
  go_wp2
  go_loopw [8] (fun v wr => ∃ k : Nat, k ≤ l.length ∧ v = .int .i64 k ∧ Hid (wr.heap[b]? = some (.cells #[.int .u32 (crcF r (l.take k))] 51 (0, 0))) ∧ Below b w wr) (fun v _ => l.length - (intOf v).toNat)
  case atStart => exact ⟨0, by omega, rfl, H, Below.refl _ _⟩
  case round =>
    obtain ⟨k, hk, rfl, hv, hb⟩ := hrel
    by_cases hlt : k < l.length
    · obtain ⟨ad, rfl, hc⟩ := HR.out.2 k hlt
      have hc' : wr.cell? (ad.add k) = some (.int .u8 l[k]) := (hb.cell (by rw [add_block]; exact HL.out ad rfl (by omega))).trans hc
      clear hc
      go_wp2_with fail
      refine (step_any b _ _ _ hv.out).mono ?_
      rintro e w2 ⟨rfl, hv2, hb2⟩
      rw [← crcF_take _ _ _ hlt] at hv2
      have HV := Lib.hid hv2; clear hv2
      have HB := hb.trans hb2; clear hb hb2
      go_wp2
      go_roundw
      case rel => exact ⟨k + 1, by omega, by go_num, HV, HB⟩
      case measure => simp [intOf]; omega
    · obtain rfl : k = l.length := by omega
      go_wp2
      go_end0
      exact ⟨rfl, by have := hv.out; rw [List.take_length] at this; exact this, hb⟩

def notF (c : Int) : Int := bits BinOp.xor IntKind.u32 IntKind.u32.max c
def moreF (c : Int) (l : List Int) : Int := notF (crcF (notF c) l)

set_option maxHeartbeats 400000 in
theorem more_any (c : Int) (A : Option Addr) (cap : Nat) (l : List Int) (w : World) (hr : Row w .u8 A l) :
    Calls Try.prog 13 #[.int .u32 c, .slice A l.length cap] w fun e w' => e = .returned (.int .u32 (moreF c l)) ∧ Below w.heap.size w w' := by
  have HL := Lib.hid hr.lt
  have HR := Lib.hid hr
  clear hr
  have hsg : IntKind.u32.signed = false := rfl
  go_enter Try.func13, Try.ntmps13
  go_wp2_with fail
  refine (each_any w.heap.size _ A cap l _ (heap_alloc_new _ _) (HR.out.alloc _) HL.out).mono ?_
  rintro e w1 ⟨rfl, hv, hb⟩
  have hc := cell_of_one hv
  have HB : Below w.heap.size w w1 := ((Below.refl _ w).alloc (Nat.le_refl _) _).trans hb
  clear hv hb
  go_wp2
  go_ret
  exact ⟨rfl, HB⟩

set_option maxHeartbeats 400000 in
theorem of_any (A : Option Addr) (cap : Nat) (l : List Int) (w : World) (hr : Row w .u8 A l) :
    Calls Try.prog 11 #[.slice A l.length cap] w fun e w' => e = .returned (.int .u32 (moreF 0 l)) ∧ Below w.heap.size w w' := by
  have HR := Lib.hid hr
  clear hr
  go_enter Try.func11, Try.ntmps11
  go_wp2_with fail
  refine (more_any 0 A cap l _ HR.out).mono ?_
  rintro e w1 ⟨rfl, hb⟩
  have HB := Lib.hid hb; clear hb
  go_wp2
  go_ret
  exact ⟨rfl, HB⟩

def check9 : List Int := [49, 50, 51, 52, 53, 54, 55, 56, 57]
theorem moreF_check9 : moreF 0 check9 = 3421780262 := by decide +kernel
theorem moreF_nil : moreF 0 [] = 0 := by decide +kernel

set_option maxHeartbeats 400000 in
theorem live_any (w : World) :
    Calls Try.prog 10 #[] w fun e w' => e = .returned (.bool true) ∧ Below w.heap.size w w' := by
  have kc := fun (w : World) (C : Array Value) (n c : Nat) => Lib.run_convert_bytes_const (P := Try.prog) w 22 5 C n c Try.underlying22 Try.underlying5
  go_enter Try.func10, Try.ntmps10
  go_wp2_with fail
  refine (of_any (some ⟨w.heap.size, 0, none⟩) 9 check9 _ (Row.new w .u8 check9 5 (9, 10) (by decide))).mono ?_
  rw [moreF_check9]
  rintro e w1 ⟨rfl, hb1⟩
  have HB : Below w.heap.size w w1 := ((Below.refl _ w).alloc (Nat.le_refl _) _).trans (hb1.mono (by simp))
  clear hb1
  go_wp2_with fail
  refine (of_any none 0 [] _ (Row.nil _ _)).mono ?_
  rw [moreF_nil]
  rintro e w2 ⟨rfl, hb2⟩
  have HB2 : Below w.heap.size w w2 := HB.trans (hb2.mono HB.size)
  clear hb2 HB
  go_wp2
  go_ret
  exact ⟨rfl, HB2⟩

set_option maxHeartbeats 400000 in
theorem write_nil (A : Option Addr) (n cap : Nat) (w : World) :
    Calls Try.prog 22 #[.pointer none, .slice A n cap] w fun e w' => e = .returned (.tuple #[]) ∧ w' = w := by
  go_enter Try.func22, Try.ntmps22
  go_wp2
  go_returns
  exact ⟨rfl, rfl⟩
set_option maxHeartbeats 400000 in
theorem value_nil (w : World) : Calls Try.prog 23 #[.pointer none] w fun e w' => e = .returned (.int .u32 0) ∧ w' = w := by
  go_enter Try.func23, Try.ntmps23
  go_wp2
  go_ret
  exact ⟨rfl, rfl⟩
set_option maxHeartbeats 400000 in
theorem len_nil (w : World) : Calls Try.prog 24 #[.pointer none] w fun e w' => e = .returned (.int .i64 0) ∧ w' = w := by
  go_enter Try.func24, Try.ntmps24
  go_wp2
  go_ret
  exact ⟨rfl, rfl⟩
end Go.Proofs.Ytcpicgjelohhlaa
