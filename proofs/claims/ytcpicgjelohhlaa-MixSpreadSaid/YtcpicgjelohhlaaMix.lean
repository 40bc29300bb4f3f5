/- The walks of mix: turn, round, Of, Bucket, live. -/
import Derived.Test.YtcpicgjelohhlaaBase
import Derived.RegionTactic
import Derived.Deep.Light
namespace Go.Proofs.Ytcpicgjelohhlaa
open Go.RowKit

def turnF (s p t : Nat) : Nat := ((s ^^^ s / 2 ^ p) * t) % 18446744073709551616
def roundF (s : Nat) : Nat := turnF (turnF (turnF s 30 13787848793156543929) 27 10723151780598845931) 31 1
def addF (s hi : Nat) : Nat := (s + (hi ^^^ 11400714819323198485)) % 18446744073709551616
def mixF (hi lo : Nat) : Nat := roundF (addF (roundF lo) hi)
theorem turnF_lt (s p t : Nat) : turnF s p t < 18446744073709551616 := Nat.mod_lt _ (by decide)
theorem roundF_lt (s : Nat) : roundF s < 18446744073709551616 := turnF_lt _ _ _
theorem addF_lt (s hi : Nat) : addF s hi < 18446744073709551616 := Nat.mod_lt _ (by decide)
theorem mixF_lt (hi lo : Nat) : mixF hi lo < 18446744073709551616 := roundF_lt _
theorem turnF_eq (s p t : Nat) (hs : s < 18446744073709551616) : IntKind.u64.wrap (bits BinOp.xor IntKind.u64 (s : Int) ((s : Int) / 2 ^ p) * (t : Int)) = (turnF s p t : Int) := by
  have e : ((s : Int) / 2 ^ p) = ((s / 2 ^ p : Nat) : Int) := by simp
  rw [IntKind.wrap_u64, e, u64_xor_nat s _ hs (Nat.lt_of_le_of_lt (Nat.div_le_self _ _) hs)]
  unfold turnF
  omega
theorem addF_eq (s hi : Nat) (hh : hi < 18446744073709551616) : IntKind.u64.wrap ((s : Int) + bits BinOp.xor IntKind.u64 (hi : Int) 11400714819323198485) = (addF s hi : Int) := by
  have e := u64_xor_nat hi 11400714819323198485 hh (by decide)
  have e' : bits BinOp.xor IntKind.u64 (hi : Int) 11400714819323198485 = ((hi ^^^ 11400714819323198485 : Nat) : Int) := e
  rw [IntKind.wrap_u64, e']
  unfold addF
  omega

set_option maxHeartbeats 400000 in
theorem turnM_any (b : Nat) (s p t : Nat) (w : World) (hs : s < 18446744073709551616) (hp : p < 64) (h : w.heap[b]? = some (.cells #[.int .u64 s] 57 (0, 0))) :
    Calls Try.prog 33 #[.pointer (some ⟨b, 0, none⟩), .int .u64 p, .int .u64 t] w fun e w' => e = .returned (.tuple #[]) ∧ w'.heap[b]? = some (.cells #[.int .u64 (turnF s p t)] 57 (0, 0)) ∧ Below b w w' := by
  have hc := cell_of_one h
  have hf := free_of_one h
  have H := Lib.hid h
  have HE := Lib.hid (turnF_eq s p t hs)
  clear h hs
  go_enter Try.func33, Try.ntmps33
  go_wp2
  go_region
  go_wp2
  go_end0
  exact ⟨rfl, by rw [HE.out]; exact one_setCell (one_setCell H.out), (((Below.refl b w).setCell (Nat.le_refl b) _).setCell (Nat.le_refl b) _).drew⟩

set_option maxHeartbeats 400000 in
theorem roundM_any (b : Nat) (s : Nat) (w : World) (hs : s < 18446744073709551616) (h : w.heap[b]? = some (.cells #[.int .u64 s] 57 (0, 0))) :
    Calls Try.prog 30 #[.pointer (some ⟨b, 0, none⟩)] w fun e w' => e = .returned (.tuple #[]) ∧ w'.heap[b]? = some (.cells #[.int .u64 (roundF s)] 57 (0, 0)) ∧ Below b w w' := by
  have H := Lib.hid h
  clear h
  go_enter Try.func30, Try.ntmps30
  go_wp2_with fail
  refine (turnM_any b s 30 13787848793156543929 w hs (by decide) H.out).mono ?_
  rintro e w1 ⟨rfl, h1, b1⟩
  have H1 := Lib.hid h1
  have B1 := Lib.hid b1
  clear h1 b1
  go_wp2_with fail
  refine (turnM_any b _ 27 10723151780598845931 w1 (turnF_lt _ _ _) (by decide) H1.out).mono ?_
  rintro e w2 ⟨rfl, h2, b2⟩
  have H2 := Lib.hid h2
  have B2 := Lib.hid (B1.out.trans b2)
  clear h2 b2 B1 H1
  go_wp2_with fail
  refine (turnM_any b _ 31 1 w2 (turnF_lt _ _ _) (by decide) H2.out).mono ?_
  rintro e w3 ⟨rfl, h3, b3⟩
  have H3 := Lib.hid h3
  have B3 := Lib.hid (B2.out.trans b3)
  clear h3 b3 B2 H2
  go_wp2
  go_end0
  exact ⟨rfl, H3.out, B3.out⟩

set_option maxHeartbeats 400000 in
theorem addM_any (b k : Nat) (s hi : Nat) (w : World) (hh : hi < 18446744073709551616) (h : w.heap[b]? = some (.cells #[.int .u64 s] 57 (0, 0))) (hk : w.cell? ⟨k, 0, none⟩ = some (.int .u64 hi)) :
    Calls Try.prog 31 #[.pointer (some ⟨b, 0, none⟩), .pointer (some ⟨k, 0, none⟩)] w fun e w' => e = .returned (.tuple #[]) ∧ w'.heap[b]? = some (.cells #[.int .u64 (addF s hi)] 57 (0, 0)) ∧ Below b w w' := by
  have hc := cell_of_one h
  have hf := free_of_one h
  have H := Lib.hid h
  have HE := Lib.hid (addF_eq s hi hh)
  clear h hh
  go_enter Try.func31, Try.ntmps31
  go_wp2
  go_end0
  exact ⟨rfl, by rw [HE.out]; exact one_setCell H.out, ((Below.refl b w).setCell (Nat.le_refl b) _)⟩

set_option maxHeartbeats 400000 in
theorem mixed_any (b k : Nat) (s hi : Nat) (w : World) (hs : s < 18446744073709551616) (hh : hi < 18446744073709551616) (hlt : k < b) (h : w.heap[b]? = some (.cells #[.int .u64 s] 57 (0, 0))) (hk : w.cell? ⟨k, 0, none⟩ = some (.int .u64 hi)) :
    Calls Try.prog 29 #[.func (.func 30) #[.pointer (some ⟨b, 0, none⟩)] #[], .func (.func 31) #[] #[.pointer (some ⟨b, 0, none⟩), .pointer (some ⟨k, 0, none⟩)]] w fun e w' => e = .returned (.tuple #[]) ∧ w'.heap[b]? = some (.cells #[.int .u64 (mixF hi s)] 57 (0, 0)) ∧ Below b w w' := by
  have H := Lib.hid h
  have HK := Lib.hid hk
  clear h hk
  go_enter Try.func29, Try.ntmps29
  go_wp2_with fail
  refine (roundM_any b s w hs H.out).mono ?_
  rintro e w1 ⟨rfl, h1, b1⟩
  have H1 := Lib.hid h1
  have B1 := Lib.hid b1
  have HK1 := Lib.hid ((b1.cell (p := ⟨k, 0, none⟩) hlt).trans HK.out)
  clear h1 b1 HK
  go_wp2_with fail
  refine (addM_any b k _ hi w1 hh H1.out HK1.out).mono ?_
  rintro e w2 ⟨rfl, h2, b2⟩
  have H2 := Lib.hid h2
  have B2 := Lib.hid (B1.out.trans b2)
  clear h2 b2 B1 H1 HK1
  go_wp2_with fail
  refine (roundM_any b _ w2 (addF_lt _ _) H2.out).mono ?_
  rintro e w3 ⟨rfl, h3, b3⟩
  have H3 := Lib.hid h3
  have B3 := Lib.hid (B2.out.trans b3)
  clear h3 b3 B2 H2
  go_wp2
  go_end0
  exact ⟨rfl, H3.out, B3.out⟩

set_option maxHeartbeats 400000 in
theorem ofM_any (hi lo : Nat) (w : World) (hh : hi < 18446744073709551616) (hl : lo < 18446744073709551616) :
    Calls Try.prog 18 #[.agg #[.int .u64 hi, .int .u64 lo]] w fun e w' => e = .returned (.int .u64 (mixF hi lo)) ∧ Below w.heap.size w w' := by
  go_enter Try.func18, Try.ntmps18
  go_wp2_with fail
  have hb : ((w.alloc (.cells #[.int .u64 hi, .int .u64 lo] 33)).alloc (.cells #[.int .u64 lo] 57)).heap[w.heap.size + 1]? = some (.cells #[.int .u64 lo] 57 (0, 0)) := by
    have := heap_alloc_new (w.alloc (.cells #[.int .u64 hi, .int .u64 lo] 33)) (.cells #[.int .u64 lo] 57)
    rwa [World.size_alloc] at this
  have hk : ((w.alloc (.cells #[.int .u64 hi, .int .u64 lo] 33)).alloc (.cells #[.int .u64 lo] 57)).cell? ⟨w.heap.size, 0, none⟩ = some (.int .u64 hi) := by
    rw [World.cell?_alloc_past _ _ _ (by simp), World.cell?_alloc_at _ _ _ _ rfl]; rfl
  refine (mixed_any (w.heap.size + 1) w.heap.size lo hi _ hl hh (by omega) hb hk).mono ?_
  clear hb hk
  rintro e w1 ⟨rfl, h1, b1⟩
  have hc := cell_of_one h1
  have HB : Below w.heap.size w w1 := (((Below.refl _ w).alloc (Nat.le_refl _) _).alloc (by simp) _).trans (b1.mono (by omega))
  clear h1 b1
  go_wp2
  go_ret
  exact ⟨rfl, HB⟩

/-- May there be so many buckets? -/
def mayF (n : Int) : Bool := decide (1 ≤ n ∧ n ≤ 65536)

set_option maxHeartbeats 400000 in
theorem mayM_any (n : Int) (w : World) : Calls Try.prog 28 #[.int .i64 n] w fun e w' => e = .returned (.bool (mayF n)) ∧ w' = w := by
  by_cases h1 : 1 ≤ n
  · by_cases h2 : n ≤ 65536
    · have E : Hid (mayF n = true) := decide_eq_true ⟨h1, h2⟩
      go_enter Try.func28, Try.ntmps28
      go_wp2
      go_ret
      exact ⟨by rw [E.out]; rfl, rfl⟩
    · have E : Hid (mayF n = false) := decide_eq_false (fun h => h2 h.2)
      go_enter Try.func28, Try.ntmps28
      go_wp2
      go_ret
      exact ⟨by rw [E.out]; rfl, rfl⟩
  · have E : Hid (mayF n = false) := decide_eq_false (fun h => h1 h.1)
    go_enter Try.func28, Try.ntmps28
    go_wp2
    go_ret
    exact ⟨by rw [E.out]; rfl, rfl⟩

/-- A word's bucket. -/
def bucketF (hi lo : Nat) (n : Int) : Int := if 1 ≤ n ∧ n ≤ 65536 then ((mixF hi lo % n.toNat : Nat) : Int) else -1

theorem bucket_cast (x m : Nat) (h1 : 1 ≤ (m : Int)) (h2 : (m : Int) ≤ 65536) : wrap64 ((x : Int) % (m : Int)) = ((x % (m : Int).toNat : Nat) : Int) := by
  have h := Int.emod_lt_of_pos (x : Int) (show (0 : Int) < m by omega)
  have h0 := Int.emod_nonneg (x : Int) (show (m : Int) ≠ 0 by omega)
  rw [Int.toNat_natCast, Int.natCast_emod]
  unfold wrap64
  omega

set_option maxHeartbeats 400000 in
theorem bucketM_any (hi lo : Nat) (n : Int) (w : World) (hh : hi < 18446744073709551616) (hl : lo < 18446744073709551616) :
    Calls Try.prog 16 #[.agg #[.int .u64 hi, .int .u64 lo], .int .i64 n] w fun e w' => e = .returned (.int .i64 (bucketF hi lo n)) ∧ Below w.heap.size w w' := by
  by_cases h : 1 ≤ n ∧ n ≤ 65536
  · have HE : Hid (bucketF hi lo n = ((mixF hi lo % n.toNat : Nat) : Int)) := by
      show bucketF hi lo n = _
      unfold bucketF; rw [if_pos h]
    obtain ⟨h1, h2⟩ := h
    obtain ⟨m, rfl⟩ := Int.eq_ofNat_of_zero_le (show 0 ≤ n by omega)
    have ht := Lib.hid (mixF_lt hi lo)
    have hd : mayF (m : Int) = true := decide_eq_true ⟨h1, h2⟩
    go_enter Try.func16, Try.ntmps16
    go_wp2_with (go_at_call 28; refine (mayM_any _ _).mono ?_; rintro e w' ⟨rfl, rfl⟩)
    refine (ofM_any hi lo _ hh hl).mono ?_
    rintro e w1 ⟨rfl, hb⟩
    have HB : Below w.heap.size w w1 := ((Below.refl _ w).alloc (Nat.le_refl _) _).trans (hb.mono (by simp))
    clear hb
    generalize mixF hi lo = x at *
    have hx : x < 18446744073709551616 := ht.out
    go_wp2
    go_ret
    exact ⟨by rw [HE.out, ← bucket_cast x m h1 h2]; rfl, HB⟩
  · have HE : Hid (bucketF hi lo n = -1) := by
      show bucketF hi lo n = _
      unfold bucketF; rw [if_neg h]
    have hd : mayF n = false := decide_eq_false h
    clear h
    go_enter Try.func16, Try.ntmps16
    go_wp2_with (go_at_call 28; refine (mayM_any _ _).mono ?_; rintro e w' ⟨rfl, rfl⟩)
    go_ret
    exact ⟨by rw [HE.out]; rfl, (Below.refl _ w).alloc (Nat.le_refl _) _⟩
end Go.Proofs.Ytcpicgjelohhlaa
