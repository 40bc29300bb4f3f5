/- The walk of the law CrcChecks. -/
import Derived.Test.YtcpicgjelohhlaaCrcEq
namespace Go.Proofs.Ytcpicgjelohhlaa
open Go.RowKit

set_option maxHeartbeats 400000 in
theorem crcChecks_walk (A : Option Addr) (cap : Nat) (l : List Int) (c : Int) (w : World) (hr : Row w .u8 A l) (hw : ∀ x ∈ l, (Lit.int .u8 x).wf = true) (hc : (Lit.int .u32 c).wf = true) :
    Calls Try.prog 3 #[.slice A l.length cap, .int .u32 c] w fun e w' => e = .returned (.bool true) ∧ Below w.heap.size w w' := by
  have hm := hr.1
  have HR := Lib.hid hr
  clear hr
  by_cases h : l.length > 1000
  · clear hw hc
    go_enter Try.func3, Try.ntmps3
    go_wp2_with fail
    refine (live_any _).mono ?_
    rintro e w1 ⟨rfl, hb⟩
    have HB := Lib.hid hb; clear hb
    go_wp2
    go_ret
    exact ⟨rfl, HB⟩
  · have hc' : 0 ≤ c ∧ c < 4294967296 := by
      have e1 : IntKind.u32.min = 0 := by decide
      have e2 : IntKind.u32.max = 4294967295 := by decide
      simp [Lit.wf, e1, e2] at hc; omega
    have E0 := Lib.hid (moreF_ref 0 (by omega) (by omega) l hw)
    have E1 := Lib.hid (moreF_ref c hc'.1 hc'.2 l hw)
    clear hw hc hc'
    go_enter Try.func3, Try.ntmps3
    go_wp2_with fail
    refine (live_any _).mono ?_
    rintro e w1 ⟨rfl, hb⟩
    have HR1 := Lib.hid (HR.out.below hb)
    have HB := Lib.hid hb; clear hb
    go_wp2_with fail
    refine (of_any A cap l _ HR1.out).mono ?_
    rintro e w2 ⟨rfl, hb⟩
    have HR2 := Lib.hid (HR1.out.below hb)
    have HB2 := Lib.hid (HB.out.trans (hb.mono HB.out.size)); clear hb HB
    go_wp2_with fail
    refine (refOf_any A cap l _ HR2.out (by omega)).mono ?_
    rintro e w3 ⟨rfl, rfl⟩
    rw [E0.out]
    go_wp2_with fail
    refine (more_any c A cap l _ HR2.out).mono ?_
    rintro e w4 ⟨rfl, hb⟩
    have HR3 := Lib.hid (HR2.out.below hb)
    have HB3 := Lib.hid (HB2.out.trans (hb.mono HB2.out.size)); clear hb HB2
    go_wp2_with fail
    refine (refMore_any c A cap l _ HR3.out (by omega)).mono ?_
    rintro e w5 ⟨rfl, rfl⟩
    rw [E1.out]
    go_wp2
    go_ret
    exact ⟨rfl, HB3⟩
end Go.Proofs.Ytcpicgjelohhlaa
