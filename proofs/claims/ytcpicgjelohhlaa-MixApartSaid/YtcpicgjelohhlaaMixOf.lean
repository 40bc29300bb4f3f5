/- The walk of the law MixOf. -/
import Derived.Test.YtcpicgjelohhlaaMixRef
import Derived.Deep.RegionHeld3
namespace Go.Proofs.Ytcpicgjelohhlaa
open Go.RowKit

/-- The word's box reads as it did; nothing that stood before the call has turned. -/
def Box (w0 : World) (b : Nat) (hi lo : Nat) (w : World) : Prop := w.cell? ⟨b, 0, none⟩ = some (.int .u64 hi) ∧ w.cell? ⟨b, 1, none⟩ = some (.int .u64 lo) ∧ Below w0.heap.size w0 w
theorem Box.next {w0 w : World} {b hi lo : Nat} {w1 : World} (h : Box w0 b hi lo w) (hb : Below w.heap.size w w1) : Box w0 b hi lo w1 := ⟨cell_below hb h.1, cell_below hb h.2.1, below_step h.2.2 hb⟩

theorem box_live {w0 w : World} {b hi lo : Nat} (h : w.cell? ⟨b, 0, none⟩ = some (.int .u64 hi) ∧ w.cell? ⟨b, 1, none⟩ = some (.int .u64 lo) ∧ Below w0.heap.size w0 w) :
    Calls Try.prog 17 #[] w fun e w' => e = .returned (.bool true) ∧ Box w0 b hi lo w' := (live21_any w).mono fun _ _ ⟨he, hb⟩ => ⟨he, Box.next h hb⟩
theorem box_of {w0 w : World} {b hi lo : Nat} (h : w.cell? ⟨b, 0, none⟩ = some (.int .u64 hi) ∧ w.cell? ⟨b, 1, none⟩ = some (.int .u64 lo) ∧ Below w0.heap.size w0 w) (x y : Nat) (hx : x < 18446744073709551616) (hy : y < 18446744073709551616) :
    Calls Try.prog 18 #[.agg #[.int .u64 x, .int .u64 y]] w fun e w' => e = .returned (.int .u64 (mixF x y)) ∧ Box w0 b hi lo w' := (ofM_any x y w hx hy).mono fun _ _ ⟨he, hb⟩ => ⟨he, Box.next h hb⟩
theorem box_refOf {w0 w : World} {b hi lo : Nat} (h : w.cell? ⟨b, 0, none⟩ = some (.int .u64 hi) ∧ w.cell? ⟨b, 1, none⟩ = some (.int .u64 lo) ∧ Below w0.heap.size w0 w) (x y : Nat) (hx : x < 18446744073709551616) (hy : y < 18446744073709551616) :
    Calls Try.prog 19 #[.agg #[.int .u64 x, .int .u64 y]] w fun e w' => e = .returned (.int .u64 (mixF x y)) ∧ Box w0 b hi lo w' := (refOfM_any x y w hx hy).mono fun _ _ ⟨he, hb⟩ => ⟨he, Box.next h hb⟩
theorem box_refBucket {w0 w : World} {b hi lo : Nat} (h : w.cell? ⟨b, 0, none⟩ = some (.int .u64 hi) ∧ w.cell? ⟨b, 1, none⟩ = some (.int .u64 lo) ∧ Below w0.heap.size w0 w) (x y : Nat) (n : Int) (hx : x < 18446744073709551616) (hy : y < 18446744073709551616) :
    Calls Try.prog 20 #[.agg #[.int .u64 x, .int .u64 y], .int .i64 n] w fun e w' => e = .returned (.int .i64 (bucketF x y n)) ∧ Box w0 b hi lo w' := (refBucketM_any x y n w hx hy).mono fun _ _ ⟨he, hb⟩ => ⟨he, Box.next h hb⟩

theorem bucketF_neg (hi lo : Nat) (n : Int) (h : n < 0) : decide (bucketF hi lo n < 0) = true := by
  apply decide_eq_true
  unfold bucketF
  rw [if_neg (by omega)]; omega
theorem bucketF_below (hi lo : Nat) (n : Int) (h0 : 0 ≤ n) : decide (bucketF hi lo n < n) = true := by
  apply decide_eq_true
  unfold bucketF
  by_cases h : 1 ≤ n ∧ n ≤ 65536
  · rw [if_pos h]
    have := Nat.mod_lt (mixF hi lo) (show n.toNat > 0 by omega)
    omega
  · rw [if_neg h]
    omega

set_option maxHeartbeats 800000 in
theorem mixOf_main (hi lo : Nat) (n : Int) (w : World) (hh : hi < 18446744073709551616) (hl : lo < 18446744073709551616) :
    Calls Try.prog 5 #[.agg #[.int .u64 hi, .int .u64 lo], .int .i64 n] w fun e w' => e = .returned (.bool true) ∧ Below w.heap.size w w' := by
  go_enter Try.func5, Try.ntmps5
  go_wp2_with fail
  refine (bucketM_any hi lo n _ hh hl).mono ?_
  rintro e w1 ⟨rfl, hb⟩
  have hB : Box w w.heap.size hi lo w1 := by
    refine ⟨cell_below hb ?_, cell_below hb ?_, ((Below.refl _ w).alloc (Nat.le_refl _) _).trans (hb.mono (by simp))⟩
    · rw [World.cell?_alloc_at _ _ _ _ rfl]; rfl
    · rw [World.cell?_alloc_at _ _ _ _ rfl]; rfl
  clear hb
  go_wp2_with fail
  obtain ⟨hc0, hc1, hb⟩ := hB
  go_region_held3 (fun w' => w'.cell? ⟨w.heap.size, 0, none⟩ = some (.int .u64 hi) ∧ w'.cell? ⟨w.heap.size, 1, none⟩ = some (.int .u64 lo) ∧ Below w.heap.size w w') (first | exact ⟨hc0, hc1, hb.drew⟩ | exact hst) (first
    | (go_at_call 17; refine (box_live ‹_›).mono ?_; rintro e w' ⟨rfl, hst⟩)
    | (go_at_call 18; refine (box_of ‹_› hi lo hh hl).mono ?_; rintro e w' ⟨rfl, hst⟩)
    | (go_at_call 19; refine (box_refOf ‹_› hi lo hh hl).mono ?_; rintro e w' ⟨rfl, hst⟩)
    | (go_at_call 20; refine (box_refBucket ‹_› hi lo n hh hl).mono ?_; rintro e w' ⟨rfl, hst⟩))
  clear hc0 hc1
  by_cases hn : n < 0
  · have hd := bucketF_neg hi lo n hn
    go_wp2
    go_ret
    exact ⟨rfl, hst.2.2⟩
  · have hd := bucketF_below hi lo n (by omega)
    go_wp2
    go_ret
    exact ⟨rfl, hst.2.2⟩
end Go.Proofs.Ytcpicgjelohhlaa
