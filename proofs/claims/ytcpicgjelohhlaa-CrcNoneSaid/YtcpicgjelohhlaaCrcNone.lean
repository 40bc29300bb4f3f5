/- The walk of the law CrcNone. -/
import Derived.Test.YtcpicgjelohhlaaCrc
namespace Go.Proofs.Ytcpicgjelohhlaa
open Go.RowKit

set_option maxHeartbeats 400000 in
theorem crcNone_walk (A : Option Addr) (cap : Nat) (l : List Int) (w : World) (hr : Row w .u8 A l) :
    Calls Try.prog 9 #[.slice A l.length cap] w fun e w' => e = .returned (.bool true) ∧ Below w.heap.size w w' := by
  have hm := hr.1
  clear hr
  by_cases h : l.length > 100
  · go_enter Try.func9, Try.ntmps9
    go_wp2_with fail
    refine (live_any _).mono ?_
    rintro e w1 ⟨rfl, hb⟩
    have HB := Lib.hid hb; clear hb
    go_wp2
    go_ret
    exact ⟨rfl, HB⟩
  · go_enter Try.func9, Try.ntmps9
    go_wp2_with fail
    refine (write_nil _ _ _ _).mono ?_
    rintro e w1 ⟨rfl, rfl⟩
    go_wp2_with fail
    refine (live_any _).mono ?_
    rintro e w1 ⟨rfl, hb⟩
    have HB := Lib.hid hb; clear hb
    go_wp2
    go_ret
    exact ⟨rfl, HB⟩
end Go.Proofs.Ytcpicgjelohhlaa
