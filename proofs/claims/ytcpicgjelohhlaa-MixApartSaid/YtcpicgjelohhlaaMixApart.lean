/- The walk of the law MixApart. -/
import Derived.Test.YtcpicgjelohhlaaMixOf
import Derived.Test.YtcpicgjelohhlaaMixInj
namespace Go.Proofs.Ytcpicgjelohhlaa
open Go.RowKit

/-- Both words' boxes read as they did; nothing that stood before the call has turned. -/
def Box2 (w0 : World) (b hi lo hi' lo' : Nat) (w : World) : Prop := w.cell? ⟨b, 0, none⟩ = some (.int .u64 hi) ∧ w.cell? ⟨b, 1, none⟩ = some (.int .u64 lo) ∧ w.cell? ⟨b + 1, 0, none⟩ = some (.int .u64 hi') ∧ w.cell? ⟨b + 1, 1, none⟩ = some (.int .u64 lo') ∧ Below w0.heap.size w0 w
theorem Box2.next {w0 w : World} {b hi lo hi' lo' : Nat} {w1 : World} (h : Box2 w0 b hi lo hi' lo' w) (hb : Below w.heap.size w w1) : Box2 w0 b hi lo hi' lo' w1 := ⟨cell_below hb h.1, cell_below hb h.2.1, cell_below hb h.2.2.1, cell_below hb h.2.2.2.1, below_step h.2.2.2.2 hb⟩
theorem box2_live {w0 w : World} {b hi lo hi' lo' : Nat} (h : w.cell? ⟨b, 0, none⟩ = some (.int .u64 hi) ∧ w.cell? ⟨b, 1, none⟩ = some (.int .u64 lo) ∧ w.cell? ⟨b + 1, 0, none⟩ = some (.int .u64 hi') ∧ w.cell? ⟨b + 1, 1, none⟩ = some (.int .u64 lo') ∧ Below w0.heap.size w0 w) :
    Calls Try.prog 17 #[] w fun e w' => e = .returned (.bool true) ∧ Box2 w0 b hi lo hi' lo' w' := (live21_any w).mono fun _ _ ⟨he, hb⟩ => ⟨he, Box2.next h hb⟩
theorem box2_of {w0 w : World} {b hi lo hi' lo' : Nat} (h : w.cell? ⟨b, 0, none⟩ = some (.int .u64 hi) ∧ w.cell? ⟨b, 1, none⟩ = some (.int .u64 lo) ∧ w.cell? ⟨b + 1, 0, none⟩ = some (.int .u64 hi') ∧ w.cell? ⟨b + 1, 1, none⟩ = some (.int .u64 lo') ∧ Below w0.heap.size w0 w) (x y : Nat) (hx : x < 18446744073709551616) (hy : y < 18446744073709551616) :
    Calls Try.prog 18 #[.agg #[.int .u64 x, .int .u64 y]] w fun e w' => e = .returned (.int .u64 (mixF x y)) ∧ Box2 w0 b hi lo hi' lo' w' := (ofM_any x y w hx hy).mono fun _ _ ⟨he, hb⟩ => ⟨he, Box2.next h hb⟩

theorem box2_start {w : World} (hi lo hi' lo' : Nat) : Box2 w w.heap.size hi lo hi' lo' ((w.alloc (.cells #[.int .u64 hi, .int .u64 lo] 33)).alloc (.cells #[.int .u64 hi', .int .u64 lo'] 33)).drew := by
  refine ⟨?_, ?_, ?_, ?_, ((((Below.refl _ w).alloc (Nat.le_refl _) _).alloc (by simp) _).drew)⟩
  · show ((w.alloc _).alloc _).cell? _ = _
    rw [World.cell?_alloc_past _ _ _ (by simp), World.cell?_alloc_at _ _ _ _ rfl]; rfl
  · show ((w.alloc _).alloc _).cell? _ = _
    rw [World.cell?_alloc_past _ _ _ (by simp), World.cell?_alloc_at _ _ _ _ rfl]; rfl
  · show ((w.alloc _).alloc _).cell? _ = _
    rw [World.cell?_alloc_at _ _ _ _ (by simp)]; rfl
  · show ((w.alloc _).alloc _).cell? _ = _
    rw [World.cell?_alloc_at _ _ _ _ (by simp)]; rfl

set_option maxHeartbeats 800000 in
theorem mixApart_hi (hi lo half : Nat) (w : World) (hh : hi < 18446744073709551616) (hl : lo < 18446744073709551616) (hf : half < 18446744073709551616) :
    Calls Try.prog 6 #[.agg #[.int .u64 hi, .int .u64 lo], .int .u64 half, .bool true] w fun e w' => e = .returned (.bool true) ∧ Below w.heap.size w w' := by
  by_cases he : hi = half
  · subst he
    have hst := box2_start (w := w) hi lo hi lo
    go_enter Try.func6, Try.ntmps6
    go_wp2_with fail
    go_region_held3 (fun w' => w'.cell? ⟨w.heap.size, 0, none⟩ = some (.int .u64 hi) ∧ w'.cell? ⟨w.heap.size, 1, none⟩ = some (.int .u64 lo) ∧ w'.cell? ⟨w.heap.size + 1, 0, none⟩ = some (.int .u64 hi) ∧ w'.cell? ⟨w.heap.size + 1, 1, none⟩ = some (.int .u64 lo) ∧ Below w.heap.size w w') (first | exact hst) (first
      | (go_at_call 17; refine (box2_live ‹_›).mono ?_; rintro e w' ⟨rfl, hst⟩)
      | (go_at_call 18; refine (box2_of ‹_› hi lo hh hl).mono ?_; rintro e w' ⟨rfl, hst⟩))
    go_wp2
    go_ret
    exact ⟨rfl, hst.2.2.2.2⟩
  · have hst := box2_start (w := w) hi lo half lo
    have hd : ((hi : Int) == (half : Int)) = false := beq_eq_false_iff_ne.2 (by omega)
    have hm : ((mixF hi lo : Int) == (mixF half lo : Int)) = false := beq_eq_false_iff_ne.2 (fun h => he (mix_apart_hi _ _ _ hh hf (by exact_mod_cast h)))
    go_enter Try.func6, Try.ntmps6
    go_wp2_with fail
    go_region_held3 (fun w' => w'.cell? ⟨w.heap.size, 0, none⟩ = some (.int .u64 hi) ∧ w'.cell? ⟨w.heap.size, 1, none⟩ = some (.int .u64 lo) ∧ w'.cell? ⟨w.heap.size + 1, 0, none⟩ = some (.int .u64 half) ∧ w'.cell? ⟨w.heap.size + 1, 1, none⟩ = some (.int .u64 lo) ∧ Below w.heap.size w w') (first | exact hst) (first
      | (go_at_call 17; refine (box2_live ‹_›).mono ?_; rintro e w' ⟨rfl, hst⟩)
      | (go_at_call 18; refine (box2_of ‹_› _ _ (by assumption) (by assumption)).mono ?_; rintro e w' ⟨rfl, hst⟩))
    go_wp2
    go_ret
    exact ⟨rfl, hst.2.2.2.2⟩

set_option maxHeartbeats 800000 in
theorem mixApart_lo (hi lo half : Nat) (w : World) (hh : hi < 18446744073709551616) (hl : lo < 18446744073709551616) (hf : half < 18446744073709551616) :
    Calls Try.prog 6 #[.agg #[.int .u64 hi, .int .u64 lo], .int .u64 half, .bool false] w fun e w' => e = .returned (.bool true) ∧ Below w.heap.size w w' := by
  by_cases he : lo = half
  · subst he
    have hst := box2_start (w := w) hi lo hi lo
    go_enter Try.func6, Try.ntmps6
    go_wp2_with fail
    go_region_held3 (fun w' => w'.cell? ⟨w.heap.size, 0, none⟩ = some (.int .u64 hi) ∧ w'.cell? ⟨w.heap.size, 1, none⟩ = some (.int .u64 lo) ∧ w'.cell? ⟨w.heap.size + 1, 0, none⟩ = some (.int .u64 hi) ∧ w'.cell? ⟨w.heap.size + 1, 1, none⟩ = some (.int .u64 lo) ∧ Below w.heap.size w w') (first | exact hst) (first
      | (go_at_call 17; refine (box2_live ‹_›).mono ?_; rintro e w' ⟨rfl, hst⟩)
      | (go_at_call 18; refine (box2_of ‹_› hi lo hh hl).mono ?_; rintro e w' ⟨rfl, hst⟩))
    go_wp2
    go_ret
    exact ⟨rfl, hst.2.2.2.2⟩
  · have hst := box2_start (w := w) hi lo hi half
    have hd : ((lo : Int) == (half : Int)) = false := beq_eq_false_iff_ne.2 (by omega)
    have hm : ((mixF hi lo : Int) == (mixF hi half : Int)) = false := beq_eq_false_iff_ne.2 (fun h => he (mix_apart_lo _ _ _ hl hf (by exact_mod_cast h)))
    go_enter Try.func6, Try.ntmps6
    go_wp2_with fail
    go_region_held3 (fun w' => w'.cell? ⟨w.heap.size, 0, none⟩ = some (.int .u64 hi) ∧ w'.cell? ⟨w.heap.size, 1, none⟩ = some (.int .u64 lo) ∧ w'.cell? ⟨w.heap.size + 1, 0, none⟩ = some (.int .u64 hi) ∧ w'.cell? ⟨w.heap.size + 1, 1, none⟩ = some (.int .u64 half) ∧ Below w.heap.size w w') (first | exact hst) (first
      | (go_at_call 17; refine (box2_live ‹_›).mono ?_; rintro e w' ⟨rfl, hst⟩)
      | (go_at_call 18; refine (box2_of ‹_› _ _ (by assumption) (by assumption)).mono ?_; rintro e w' ⟨rfl, hst⟩))
    go_wp2
    go_ret
    exact ⟨rfl, hst.2.2.2.2⟩

theorem mixApart_walk (hi lo half : Nat) (b : Bool) (w : World) (hh : hi < 18446744073709551616) (hl : lo < 18446744073709551616) (hf : half < 18446744073709551616) :
    Calls Try.prog 6 #[.agg #[.int .u64 hi, .int .u64 lo], .int .u64 half, .bool b] w fun e w' => e = .returned (.bool true) ∧ Below w.heap.size w w' := by
  cases b
  · exact mixApart_lo hi lo half w hh hl hf
  · exact mixApart_hi hi lo half w hh hl hf
theorem mixApart_call (hi lo : Nat) (half : Int) (b : Bool) (w : World) (hh : hi < 18446744073709551616) (hl : lo < 18446744073709551616) (hf : (Lit.int .u64 half).wf = true) :
    Calls Try.prog 6 #[.agg #[.int .u64 hi, .int .u64 lo], .int .u64 half, .bool b] w fun e w' => e = .returned (.bool true) ∧ Below w.heap.size w w' := by
  have e1 : IntKind.u64.min = 0 := by decide
  have e2 : IntKind.u64.max = 18446744073709551615 := by decide
  simp [Lit.wf, e1, e2] at hf
  obtain ⟨n, rfl⟩ := Int.eq_ofNat_of_zero_le hf.1
  exact mixApart_walk hi lo n b w hh hl (by omega)
end Go.Proofs.Ytcpicgjelohhlaa
