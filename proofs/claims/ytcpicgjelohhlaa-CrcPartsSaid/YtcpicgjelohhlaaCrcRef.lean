/- The walks of the reference's crc: bit, More, Of. -/
import Derived.Test.YtcpicgjelohhlaaCrc
namespace Go.Proofs.Ytcpicgjelohhlaa
open Go.RowKit

/-- Bit i of bytes, as the walk spells it. -/
def bitAt (l : List Int) (i : Nat) : Bool := bits BinOp.and IntKind.u8 (l.getD (i / 8) 0 / 2 ^ (i % 8)) 1 == 1
theorem bitAt_eq (l : List Int) (i : Nat) (h : i / 8 < l.length) : (bits BinOp.and IntKind.u8 (l[i / 8] / 2 ^ (i % 8)) 1 == 1) = bitAt l i := by
  unfold bitAt
  rw [List.getD_eq_getElem?_getD, List.getElem?_eq_getElem h]; rfl

set_option maxHeartbeats 400000 in
theorem bit_any (A : Option Addr) (cap : Nat) (l : List Int) (i : Nat) (w : World) (hr : Row w .u8 A l) (hi : i < 8 * l.length) (hcap : i < 1000000) :
    Calls Try.prog 27 #[.slice A l.length cap, .int .i64 i] w fun e w' => e = .returned (.bool (bitAt l i)) ∧ w' = w := by
  obtain ⟨ad, rfl, hc⟩ := hr.2 (i / 8) (by omega)
  clear hr
  have hlt : i / 8 < l.length := by omega
  go_enter Try.func27, Try.ntmps27
  go_wp2
  go_ret
  exact ⟨by show Ending.returned (.bool _) = _; rw [bitAt_eq l i hlt], rfl⟩

/-- One round of the reference: the register and a bit. -/
def refStep (r : Int) (b : Bool) : Int := if (!(r % 2 == 1) == b) = true then bits BinOp.xor IntKind.u32 (r / 2) 3988292384 else r / 2
def refTo (l : List Int) (c : Int) : Nat → Int | 0 => bits BinOp.xor IntKind.u32 c 4294967295 | i + 1 => refStep (refTo l c i) (bitAt l i)
theorem bits32_range (op : BinOp) (x y : Int) : 0 ≤ bits op .u32 x y ∧ bits op .u32 x y < 4294967296 := by
  unfold bits
  cases op <;> simp only [IntKind.wrap_u32] <;> omega
theorem refTo_range (l : List Int) (c : Int) : ∀ i, 0 ≤ refTo l c i ∧ refTo l c i < 4294967296
  | 0 => bits32_range _ _ _
  | i + 1 => by
    have h := refTo_range l c i
    show 0 ≤ refStep _ _ ∧ refStep _ _ < _
    unfold refStep
    split
    · exact bits32_range _ _ _
    · omega
def refMore (c : Int) (l : List Int) : Int := bits BinOp.xor IntKind.u32 (refTo l c (8 * l.length)) 4294967295

set_option maxHeartbeats 400000 in
theorem refMore_any (c : Int) (A : Option Addr) (cap : Nat) (l : List Int) (w : World) (hr : Row w .u8 A l) (hm : l.length ≤ 1000) :
    Calls Try.prog 14 #[.int .u32 c, .slice A l.length cap] w fun e w' => e = .returned (.int .u32 (refMore c l)) ∧ w' = w := by
  have HR := Lib.hid hr
  clear hr
  go_enter Try.func14, Try.ntmps14
  go_wp2
  go_loop [5, 6] (fun v5 v6 => ∃ i : Nat, i ≤ 8 * l.length ∧ v6 = .int .i64 i ∧ v5 = .int .u32 (refTo l c i)) (fun _ v => 8 * l.length - (intOf v).toNat)
  case atStart => exact ⟨0, by omega, rfl, rfl⟩
  case round =>
    obtain ⟨i, hi, rfl, rfl⟩ := hrel
    by_cases hlt : i < 8 * l.length
    · have e : refTo l c (i + 1) = refStep (refTo l c i) (bitAt l i) := rfl
      have E := Lib.hid e
      clear e
      obtain ⟨hr0, hr1⟩ := refTo_range l c i
      generalize refTo l c i = r at *
      go_wp2_with fail
      refine (bit_any A cap l i w HR.out hlt (by omega)).mono ?_
      rintro e w1 ⟨rfl, rfl⟩
      go_wp2
      all_goals
        go_round
        case rel => exact ⟨i + 1, by omega, by go_num, by rw [E.out]; unfold refStep; simp [*]⟩
        case measure => simp [intOf]; omega
    · obtain rfl : i = 8 * l.length := by omega
      go_wp2
      go_ret
      exact ⟨rfl, rfl⟩

set_option maxHeartbeats 400000 in
theorem refOf_any (A : Option Addr) (cap : Nat) (l : List Int) (w : World) (hr : Row w .u8 A l) (hm : l.length ≤ 1000) :
    Calls Try.prog 12 #[.slice A l.length cap] w fun e w' => e = .returned (.int .u32 (refMore 0 l)) ∧ w' = w := by
  have HR := Lib.hid hr
  clear hr
  go_enter Try.func12, Try.ntmps12
  go_wp2_with fail
  refine (refMore_any 0 A cap l w HR.out hm).mono ?_
  rintro e w1 ⟨rfl, rfl⟩
  go_wp2
  go_ret
  exact ⟨rfl, rfl⟩
end Go.Proofs.Ytcpicgjelohhlaa
