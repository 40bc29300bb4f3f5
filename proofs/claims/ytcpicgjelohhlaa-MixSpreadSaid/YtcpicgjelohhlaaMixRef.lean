/- The walks of mix's live, and of the reference's round, Of, Bucket. -/
import Derived.Test.YtcpicgjelohhlaaMix
import Derived.Deep.QuietTactic
import Derived.BigQuiet
namespace Go.Proofs.Ytcpicgjelohhlaa
open Go.RowKit

theorem mix_zero : (mixF 0 0 : Int) = 16294208416658607535 := by decide +kernel
theorem bucket_none : bucketF 0 0 0 = -1 := by decide
theorem bucket_one : bucketF 0 5 1 = 0 := by
  unfold bucketF
  rw [if_pos (by decide)]
  simp [Nat.mod_one]

set_option maxHeartbeats 400000 in
theorem live21_any (w : World) :
    Calls Try.prog 17 #[] w fun e w' => e = .returned (.bool true) ∧ Below w.heap.size w w' := by
  go_enter Try.func17, Try.ntmps17
  go_wp2_with fail
  refine (ofM_any 0 0 _ (by decide) (by decide)).mono ?_
  rw [mix_zero]
  rintro e w1 ⟨rfl, hb⟩
  have HB := Lib.hid hb; clear hb
  go_wp2_with fail
  refine (bucketM_any 0 0 0 _ (by decide) (by decide)).mono ?_
  rw [bucket_none]
  rintro e w2 ⟨rfl, hb⟩
  have HB2 := Lib.hid (HB.out.trans (hb.mono HB.out.size)); clear hb HB
  go_wp2_with fail
  refine (bucketM_any 0 5 1 _ (by decide) (by decide)).mono ?_
  rw [bucket_one]
  rintro e w3 ⟨rfl, hb⟩
  have HB3 := Lib.hid (HB2.out.trans (hb.mono HB2.out.size)); clear hb HB2
  go_wp2
  go_ret
  exact ⟨rfl, HB3⟩

theorem tdiv_nat (y d : Nat) (hy : y < 18446744073709551616) : IntKind.u64.wrap ((y : Int).tdiv (d : Int)) = ((y / d : Nat) : Int) := by
  have h : y / d ≤ y := Nat.div_le_self _ _
  have e : (y : Int).tdiv (d : Int) = ((y / d : Nat) : Int) := by rw [Int.tdiv_eq_ediv_of_nonneg (by omega)]; simp
  rw [IntKind.wrap_u64, e]
  generalize y / d = q at *
  omega
theorem refTurn1 (s : Nat) (hs : s < 18446744073709551616) : IntKind.u64.wrap (bits BinOp.xor IntKind.u64 (s : Int) ((s : Int) / 1073741824) * 13787848793156543929) = (turnF s 30 13787848793156543929 : Int) := by
  have := turnF_eq s 30 13787848793156543929 hs
  rw [← this]; rfl
theorem refTurn2 (s : Nat) (hs : s < 18446744073709551616) : IntKind.u64.wrap (bits BinOp.xor IntKind.u64 (s : Int) (IntKind.u64.wrap ((s : Int).tdiv 134217728)) * 10723151780598845931) = (turnF s 27 10723151780598845931 : Int) := by
  have := turnF_eq s 27 10723151780598845931 hs
  have e := tdiv_nat s 134217728 hs
  have e' : IntKind.u64.wrap ((s : Int).tdiv 134217728) = ((s / 134217728 : Nat) : Int) := e
  rw [← this, e']
  have e2 : ((s : Int) / 2 ^ 27) = ((s / 134217728 : Nat) : Int) := by omega
  rw [e2]; rfl
theorem refTurn3 (s : Nat) (hs : s < 18446744073709551616) : bits BinOp.xor IntKind.u64 (s : Int) (IntKind.u64.wrap ((s : Int).tdiv 2147483648)) = (turnF s 31 1 : Int) := by
  have e := tdiv_nat s 2147483648 hs
  have e' : IntKind.u64.wrap ((s : Int).tdiv 2147483648) = ((s / 2147483648 : Nat) : Int) := e
  have hq : s / 2147483648 < 18446744073709551616 := Nat.lt_of_le_of_lt (Nat.div_le_self _ _) hs
  have hx : s ^^^ s / 2147483648 < 2 ^ 64 := Nat.xor_lt_two_pow hs hq
  rw [e', u64_xor_nat s _ hs hq]
  unfold turnF
  have e2 : (2 : Nat) ^ 31 = 2147483648 := rfl
  rw [e2, Nat.mul_one, Nat.mod_eq_of_lt hx]

set_option maxHeartbeats 400000 in
theorem refRound_any (s : Nat) (w : World) (hs : s < 18446744073709551616) :
    Calls Try.prog 32 #[.int .u64 s] w fun e w' => e = .returned (.int .u64 (roundF s)) ∧ w' = w := by
  have E1 := Lib.hid (refTurn1 s hs)
  have E2 := Lib.hid (refTurn2 (turnF s 30 13787848793156543929) (turnF_lt _ _ _))
  have E3 := Lib.hid (refTurn3 (turnF (turnF s 30 13787848793156543929) 27 10723151780598845931) (turnF_lt _ _ _))
  go_enter Try.func32, Try.ntmps32
  go_wp2
  go_ret
  refine ⟨?_, rfl⟩
  show Ending.returned (.int .u64 _) = _
  rw [E1.out, E2.out, E3.out]
  rfl

set_option maxHeartbeats 400000 in
theorem refOfM_any (hi lo : Nat) (w : World) (hh : hi < 18446744073709551616) (hl : lo < 18446744073709551616) :
    Calls Try.prog 19 #[.agg #[.int .u64 hi, .int .u64 lo]] w fun e w' => e = .returned (.int .u64 (mixF hi lo)) ∧ Below w.heap.size w w' := by
  have hE : IntKind.u64.wrap (((roundF lo : Nat) : Int) + bits BinOp.xor IntKind.u64 (hi : Int) 11400714819323198485) = ((addF (roundF lo) hi : Nat) : Int) := addF_eq (roundF lo) hi hh
  have hA := addF_lt (roundF lo) hi
  have hR := roundF_lt lo
  go_enter Try.func19, Try.ntmps19
  go_wp2_with fail
  go_quiet ((go_at_call 32; exact Calls.quiet_of_same (refRound_any _ _ (by assumption))))
  clear hE
  go_wp2
  go_ret
  exact ⟨rfl, below_drewN ((Below.refl _ w).alloc (Nat.le_refl _) _) _⟩

set_option maxHeartbeats 400000 in
theorem refBucketM_any (hi lo : Nat) (n : Int) (w : World) (hh : hi < 18446744073709551616) (hl : lo < 18446744073709551616) :
    Calls Try.prog 20 #[.agg #[.int .u64 hi, .int .u64 lo], .int .i64 n] w fun e w' => e = .returned (.int .i64 (bucketF hi lo n)) ∧ Below w.heap.size w w' := by
  by_cases h : 1 ≤ n ∧ n ≤ 65536
  · have HE : Hid (bucketF hi lo n = ((mixF hi lo % n.toNat : Nat) : Int)) := by
      show bucketF hi lo n = _
      unfold bucketF; rw [if_pos h]
    obtain ⟨h1, h2⟩ := h
    obtain ⟨m, rfl⟩ := Int.eq_ofNat_of_zero_le (show 0 ≤ n by omega)
    have ht := Lib.hid (mixF_lt hi lo)
    go_enter Try.func20, Try.ntmps20
    go_wp2_with fail
    refine (refOfM_any hi lo _ hh hl).mono ?_
    rintro e w1 ⟨rfl, hb⟩
    have HB : Below w.heap.size w w1 := ((Below.refl _ w).alloc (Nat.le_refl _) _).trans (hb.mono (by simp))
    clear hb
    generalize mixF hi lo = x at *
    have hx : x < 18446744073709551616 := ht.out
    go_wp2
    go_ret
    exact ⟨by rw [HE.out, ← bucket_cast x m h1 h2]; rfl, HB⟩
  · have HE : Hid (bucketF hi lo n = -1) := by
      show bucketF hi lo n = _
      unfold bucketF; rw [if_neg h]
    by_cases h1 : n < 1
    · clear h
      go_enter Try.func20, Try.ntmps20
      go_wp2
      go_ret
      exact ⟨by rw [HE.out]; rfl, (Below.refl _ w).alloc (Nat.le_refl _) _⟩
    · have h2 : 65536 < n := by omega
      clear h
      go_enter Try.func20, Try.ntmps20
      go_wp2
      go_ret
      exact ⟨by rw [HE.out]; rfl, (Below.refl _ w).alloc (Nat.le_refl _) _⟩
end Go.Proofs.Ytcpicgjelohhlaa
