/- The walk of mix's Spread: how many words have each bucket. -/
import Derived.Test.YtcpicgjelohhlaaMixRef
namespace Go.Proofs.Ytcpicgjelohhlaa
open Go.RowKit

/-- The slice that begins at A reads as these words. -/
def Wides (w : World) (A : Option Addr) (l : List (Nat × Nat)) : Prop :=
  l.length ≤ 4611686018427387903 ∧ ∀ i, (h : i < l.length) → ∃ ad, A = some ad ∧ w.cell? (ad.add (i * 2)) = some (.int .u64 l[i].1) ∧ w.cell? ⟨(ad.add (i * 2)).block, (ad.add (i * 2)).off + 1, none⟩ = some (.int .u64 l[i].2)
theorem Wides.below {w w1 : World} {A : Option Addr} {l : List (Nat × Nat)} (h : Wides w A l) (hb : Below w.heap.size w w1) : Wides w1 A l :=
  ⟨h.1, fun i hi => by
    obtain ⟨ad, e, h1, h2⟩ := h.2 i hi
    exact ⟨ad, e, cell_below hb h1, cell_below hb h2⟩⟩

theorem info3 : (Try.prog.info? 3).map (fun i => (i.zero, i.size, i.bytes)) = some (some (.int .i64 0), 1, 8) := by kernel_rfl

/-- How many words have bucket j, of n. -/
def cntF (n : Nat) (l : List (Nat × Nat)) (j : Nat) : Nat := (l.filter fun p => mixF p.1 p.2 % n == j).length
def cnts (n : Nat) (l : List (Nat × Nat)) : List Int := (List.range n).map fun j => (cntF n l j : Int)
theorem cnts_length (n : Nat) (l : List (Nat × Nat)) : (cnts n l).length = n := by simp [cnts]

theorem cntF_le (n : Nat) (l : List (Nat × Nat)) (j : Nat) : cntF n l j ≤ l.length := List.length_filter_le _ _
theorem cntF_take (n : Nat) (l : List (Nat × Nat)) (k : Nat) (h : k < l.length) (j : Nat) : cntF n (l.take (k + 1)) j = cntF n (l.take k) j + (if mixF l[k].1 l[k].2 % n = j then 1 else 0) := by
  unfold cntF
  rw [List.take_succ_eq_append_getElem h, List.filter_append, List.length_append]
  congr 1
  by_cases e : mixF l[k].1 l[k].2 % n = j <;> simp [e]
theorem cnts_get (n : Nat) (l : List (Nat × Nat)) (j : Nat) (h : j < (cnts n l).length) : (cnts n l)[j] = (cntF n l j : Int) := by
  simp [cnts]
theorem cnts_step (n : Nat) (l : List (Nat × Nat)) (k : Nat) (h : k < l.length) : (cnts n (l.take k)).set (mixF l[k].1 l[k].2 % n) ((cntF n (l.take k) (mixF l[k].1 l[k].2 % n) : Int) + 1) = cnts n (l.take (k + 1)) := by
  apply List.ext_getElem
  · simp [cnts_length]
  · intro j h1 h2
    rw [cnts_get, cntF_take n l k h j, List.getElem_set]
    by_cases e : mixF l[k].1 l[k].2 % n = j
    · rw [if_pos e, if_pos e, e]; rfl
    · rw [if_neg e, if_neg e, cnts_get]; rfl
theorem cnts_zero (n : Nat) : cnts n [] = List.replicate n 0 := by
  unfold cnts cntF
  apply List.ext_getElem
  · simp
  · intro j h1 h2; simp
theorem made_list (z : Value) (hz : z.cells = #[z]) (m : Nat) : madeCells z.cells (m * 1) = (List.replicate m z).toArray := by
  rw [hz, Nat.mul_one]
  apply Array.ext
  · simp [size_madeCells]
  · intro i h1 h2
    simp [madeCells, Nat.mod_one]
theorem make39 (m : Nat) (h : m ≤ 1000000) (W : World) : Sem.run Try.prog (Instr.makeSlice 39 (.int .i64 m) (.int .i64 m)) W = .ok (.slice (some ⟨W.heap.size, 0, none⟩) m m) (W.alloc (.cells (List.replicate m (Value.int .i64 0)).toArray 3)) := by
  obtain ⟨i0, hi, hz0, hz1, hz2⟩ := info_parts info3
  have := run_make (P := Try.prog) W 39 3 i0 (.int .i64 0) Try.underlying39 hi hz0 .i64 .i64 m m (by omega) (by omega) (by rw [hz2]; omega) (by omega)
  rw [hz1, Int.toNat_natCast, made_list _ rfl m] at this
  exact this
theorem own_made (w : World) (m : Nat) (h : m ≤ 1000000) : OwnRow (w.alloc (.cells (List.replicate m (Value.int .i64 0)).toArray 3)) 3 .i64 w.heap.size m (List.replicate m 0) :=
  ⟨_, heap_alloc_new _ _, by simp, by unfold maxLen; omega, by simp, by simp⟩

/-- A word's bucket, under a name. -/
theorem bucketM_named (hi lo m : Nat) (w : World) (h1 : 1 ≤ m) (h2 : m ≤ 300) (hh : hi < 18446744073709551616) (hl : lo < 18446744073709551616) :
    Calls Try.prog 16 #[.agg #[.int .u64 hi, .int .u64 lo], .int .i64 m] w fun e w' => ∃ j : Nat, e = .returned (.int .i64 j) ∧ j < m ∧ Hid (mixF hi lo % m = j) ∧ Below w.heap.size w w' := by
  refine (bucketM_any hi lo m w hh hl).mono ?_
  rintro e w' ⟨rfl, hb⟩
  refine ⟨mixF hi lo % m, ?_, Nat.mod_lt _ (by omega), rfl, hb⟩
  unfold bucketF
  rw [if_pos ⟨by omega, by omega⟩, Int.toNat_natCast]
theorem cnts_at {w : World} {g m : Nat} {l : List (Nat × Nat)} {k j : Nat} (h : OwnRow w 3 .i64 g m (cnts m (l.take k))) (hj : j < m) (hk : k < l.length) (e : mixF l[k].1 l[k].2 % m = j) :
    ∃ c : Nat, w.cell? ⟨g, j, none⟩ = some (.int .i64 c) ∧ c ≤ k ∧ Hid (OwnRow (w.setCell ⟨g, j, none⟩ (.int .i64 ((c : Int) + 1))) 3 .i64 g m (cnts m (l.take (k + 1)))) := by
  have hcell := h.getElem j (by rw [cnts_length]; exact hj)
  rw [cnts_get] at hcell
  refine ⟨_, hcell, Nat.le_trans (cntF_le _ _ _) (List.length_take_le _ _), ?_⟩
  have hset := h.set j ((cntF m (l.take k) j : Int) + 1)
  subst e
  rw [cnts_step m l k hk] at hset
  exact hset

set_option maxHeartbeats 800000 in
theorem spread_any (m : Nat) (A : Option Addr) (cap : Nat) (l : List (Nat × Nat)) (w : World) (h1 : 1 ≤ m) (h2 : m ≤ 300) (hmx : l.length ≤ 200) (hw : ∀ p ∈ l, p.1 < 18446744073709551616 ∧ p.2 < 18446744073709551616) (hr : Wides w A l) :
    Calls Try.prog 21 #[.int .i64 m, .slice A l.length cap] w fun e w' => ∃ g, e = .returned (.slice (some ⟨g, 0, none⟩) m m) ∧ OwnRow w' 3 .i64 g m (cnts m l) ∧ Below w.heap.size w w' := by
  have hd : mayF (m : Int) = true := decide_eq_true ⟨by omega, by omega⟩
  have hmk := make39 m (by omega)
  have HV : Hid (OwnRow (w.alloc (.cells (List.replicate m (Value.int .i64 0)).toArray 3)) 3 .i64 w.heap.size m (cnts m (l.take 0))) := by
    have := own_made w m (by omega)
    rw [← cnts_zero] at this
    exact this
  have HB : Below w.heap.size w (w.alloc (.cells (List.replicate m (Value.int .i64 0)).toArray 3)) := (Below.refl _ w).alloc (Nat.le_refl _) _
  have HR := Lib.hid hr
  have HW := Lib.hid hw
  clear hr hw
  go_enter Try.func21, Try.ntmps21
  go_wp2_with (go_at_call 28; refine (mayM_any _ _).mono ?_; rintro e w ⟨rfl, rfl⟩)
  clear hmk
  go_loopw [15] (fun v wr => ∃ k : Nat, k ≤ l.length ∧ v = .int .i64 k ∧ Hid (OwnRow wr 3 .i64 w.heap.size m (cnts m (l.take k))) ∧ Below w.heap.size w wr) (fun v _ => l.length - (intOf v).toNat)
  case atStart => exact ⟨0, by omega, rfl, by simpa using HV, by simpa using HB⟩
  case round =>
    clear HV HB
    obtain ⟨k, hk, rfl, HV, HB⟩ := hrel
    by_cases hlt : k < l.length
    · obtain ⟨ad, rfl, hc1, hc2⟩ := (HR.out.below HB).2 k hlt
      have hp := HW.out _ (List.getElem_mem hlt)
      have HC : Hid (∀ {w1 : World} {j : Nat}, OwnRow w1 3 .i64 w.heap.size m (cnts m (l.take k)) → j < m → mixF l[k].1 l[k].2 % m = j → ∃ c : Nat, w1.cell? ⟨w.heap.size, j, none⟩ = some (.int .i64 c) ∧ c ≤ k ∧ Hid (OwnRow (w1.setCell ⟨w.heap.size, j, none⟩ (.int .i64 ((c : Int) + 1))) 3 .i64 w.heap.size m (cnts m (l.take (k + 1))))) := fun h hj e => cnts_at h hj hlt e
      generalize l[k] = p at *
      obtain ⟨hi, lo⟩ := p
      go_wp2_with fail
      refine (bucketM_named hi lo m _ h1 h2 hp.1 hp.2).mono ?_
      rintro e w1 ⟨j, rfl, hj, HJ, hb⟩
      have HB1 : Below w.heap.size w w1 := below_step HB (((Below.refl _ wr).alloc (Nat.le_refl _) _).trans (hb.mono (by simp)))
      have hv1 : OwnRow w1 3 .i64 w.heap.size m (cnts m (l.take k)) := HV.out.below (((Below.refl _ wr).alloc (Nat.le_refl _) _).trans (hb.mono (by simp)))
      obtain ⟨c, hcell, hle, HS⟩ := HC.out hv1 hj HJ.out
      have hfree := hv1.free j
      clear hv1 hc1 hc2 hp hb HB HV HC HJ
      go_wp2
      go_roundw
      case rel => exact ⟨k + 1, by omega, by go_num, HS, HB1.setCell (Nat.le_refl _) _⟩
      case measure => simp [intOf]; omega
    · obtain rfl : k = l.length := by omega
      go_wp2
      go_ret
      exact ⟨_, rfl, by have := HV.out; rw [List.take_length] at this; exact this, HB⟩
end Go.Proofs.Ytcpicgjelohhlaa
