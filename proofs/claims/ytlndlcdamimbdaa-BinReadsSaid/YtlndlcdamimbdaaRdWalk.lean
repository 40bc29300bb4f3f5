/- The walks of bin's reader: its inner steps. -/
import Derived.Test.YtlndlcdamimbdaaRd
import Derived.Test.YtlndlcdamimbdaaPack
namespace Go.Proofs.Ytlndlcdamimbdaa
open Go.RowKit

theorem set_grown (w : World) (b i : Nat) (u : Value) : w.grownBy (w.setCell ⟨b, i, none⟩ u) (some b) :=
  ⟨rfl, rfl, rfl, by simp [World.setCell], fun k _ hne => Below.heap_setCell _ _ _ _ (fun e => hne (by rw [e]))⟩
theorem Row.grew' {w w1 : World} {kd : IntKind} {ad : Addr} {l : List Int} {r : Nat} (hg : w.grownBy w1 (some r)) (hne : 0 < l.length → ad.block ≠ r) (h : Row w kd (some ad) l) : Row w1 kd (some ad) l := by
  rcases Nat.eq_zero_or_pos l.length with h0 | h0
  · obtain rfl := List.length_eq_zero_iff.1 h0
    exact ⟨by simp, fun i hi => absurd hi (Nat.not_lt_zero i)⟩
  · exact Row.grew hg (hne h0) h
theorem add_add (a : Addr) (i j : Nat) : (a.add i).add j = a.add (i + j) := by
  unfold Addr.add
  by_cases hi : i = 0
  · simp [hi]
  · by_cases hj : j = 0
    · simp [hj]
    · simp [hi, hj, Nat.add_assoc]
/-- Where the rest of a row begins. -/
def dropA (ad : Addr) (c n : Nat) : Addr := if c = n then ad else ad.add n
theorem dropA_block (ad : Addr) (c n : Nat) : (dropA ad c n).block = ad.block := by unfold dropA; split; rfl; exact add_block _ _
theorem Row.drop {w : World} {kd : IntKind} {ad : Addr} {l : List Int} (h : Row w kd (some ad) l) (n c : Nat) (hc : l.length ≤ c) (hn : n ≤ l.length) : Row w kd (some (dropA ad c n)) (l.drop n) := by
  refine ⟨by have := h.1; simp; omega, fun i hi => ?_⟩
  rw [List.length_drop] at hi
  obtain ⟨ad', e, hcell⟩ := h.2 (n + i) (by omega)
  injection e with e
  subst e
  refine ⟨_, rfl, ?_⟩
  unfold dropA
  rw [if_neg (by omega), add_add, hcell, List.getElem_drop]
theorem Row.take {w : World} {kd : IntKind} {A : Option Addr} {l : List Int} (h : Row w kd A l) (n : Nat) : Row w kd A (l.take n) := by
  refine ⟨by have := h.1; simp; omega, fun i hi => ?_⟩
  rw [List.length_take] at hi
  obtain ⟨ad', e, hcell⟩ := h.2 i (by omega)
  exact ⟨ad', e, by rw [hcell, List.getElem_take]⟩

/-- A reader (of type T) in block b: bytes l are left, the first error is e; the bytes lie in none of some blocks. -/
def Rd (T : TypeId) (far : List Nat) (w : World) (b : Nat) (l : List Int) (e : Int) : Prop :=
  ∃ (ad : Addr) (c : Nat), Blk w b T #[.slice (some ad) l.length c, .int .i64 e] ∧ Row w .u8 (some ad) l ∧ l.length ≤ c ∧ c ≤ maxLen ∧ l.length ≤ 100000 ∧ Byt l ∧ (0 < l.length → ad.block ≠ b ∧ ∀ x ∈ far, ad.block ≠ x)
theorem Rd.lt {T : TypeId} {far : List Nat} {w : World} {b : Nat} {l : List Int} {e : Int} (h : Rd T far w b l e) : b < w.heap.size := by
  obtain ⟨ad, c, hb, _⟩ := h
  exact hb.lt
theorem Rd.after {T : TypeId} {far : List Nat} {w w1 : World} {b : Nat} {l : List Int} {e : Int} (hb : Below w.heap.size w w1) (h : Rd T far w b l e) : Rd T far w1 b l e := by
  obtain ⟨ad, c, h1, h2, r⟩ := h
  exact ⟨ad, c, h1.below hb, h2.below hb, r⟩
theorem Rd.grew {T : TypeId} {far : List Nat} {w w1 : World} {b r : Nat} {l : List Int} {e : Int} (hg : w.grownBy w1 (some r)) (hr : r ∈ far) (hne : b ≠ r) (h : Rd T far w b l e) : Rd T far w1 b l e := by
  obtain ⟨ad, c, h1, h2, h3, h4, h5, h6, h7⟩ := h
  exact ⟨ad, c, h1.grew hg hne, h2.grew' hg (fun h => (h7 h).2 r hr), h3, h4, h5, h6, h7⟩
theorem Rd.more {T : TypeId} {far : List Nat} {w : World} {b : Nat} {l : List Int} {e : Int} (h : Rd T far w b l e) (x : Nat) (hx : w.heap.size ≤ x) : Rd T (x :: far) w b l e := by
  obtain ⟨ad, c, h1, h2, h3, h4, h5, h6, h7⟩ := h
  refine ⟨ad, c, h1, h2, h3, h4, h5, h6, fun h => ⟨(h7 h).1, fun y hy => ?_⟩⟩
  rcases List.mem_cons.1 hy with rfl | hy
  · have := h2.lt ad rfl h; omega
  · exact (h7 h).2 y hy
theorem Rd.seterr {T : TypeId} {far : List Nat} {w : World} {b : Nat} {l : List Int} {e : Int} (h : Rd T far w b l e) (x : Int) : Rd T far (w.setCell ⟨b, 1, none⟩ (.int .i64 x)) b l x := by
  obtain ⟨ad, c, h1, h2, h3, h4, h5, h6, h7⟩ := h
  exact ⟨ad, c, Go.Joins.block_setCell h1 (i := 1) _, h2.grew' (set_grown _ _ _ _) (fun h => (h7 h).1), h3, h4, h5, h6, h7⟩
theorem Rd.byt {T : TypeId} {far : List Nat} {w : World} {b : Nat} {l : List Int} {e : Int} (h : Rd T far w b l e) : Byt l := by
  obtain ⟨ad, c, h1, h2, h3, h4, h5, h6, h7⟩ := h
  exact h6
theorem Rd.len {T : TypeId} {far : List Nat} {w : World} {b : Nat} {l : List Int} {e : Int} (h : Rd T far w b l e) : l.length ≤ 100000 := by
  obtain ⟨ad, c, h1, h2, h3, h4, h5, h6, h7⟩ := h
  exact h5
theorem Rd.c1 {T : TypeId} {far : List Nat} {w : World} {b : Nat} {l : List Int} {e : Int} (h : Rd T far w b l e) : w.cell? ⟨b, 1, none⟩ = some (.int .i64 e) := by
  obtain ⟨ad, c, h1, _⟩ := h
  exact h1.two.2
theorem Rd.free {T : TypeId} {far : List Nat} {w : World} {b : Nat} {l : List Int} {e : Int} (h : Rd T far w b l e) (i : Nat) : w.frozen? ⟨b, i, none⟩ = false := by
  obtain ⟨ad, c, h1, _⟩ := h
  exact Go.Joins.unfrozen_of_block h1 i

set_option maxHeartbeats 400000 in
theorem fail_any {T : TypeId} {far : List Nat} {w : World} {b : Nat} {l : List Int} {e : Int} (h : Rd T far w b l e) (x : Int) : Calls Try.prog 58 #[.pointer (some ⟨b, 0, none⟩), .int .i64 x] w fun e w' => e = .returned (.tuple #[]) ∧ Rd T far w' b l x ∧ w.grownBy w' (some b) := by
  have hc := h.c1
  have hf := h.free 1
  have H := Lib.hid h
  clear h
  go_enter Try.func58, Try.ntmps58
  go_wp2
  go_end0
  exact ⟨rfl, H.out.seterr x, set_grown _ _ _ _⟩
theorem grown_refl (w : World) (r : Option Nat) : w.grownBy w r := ⟨rfl, rfl, rfl, Nat.le_refl _, fun _ _ _ => rfl⟩

set_option maxHeartbeats 400000 in
theorem ok_nil (x : Bool) (w : World) : Calls Try.prog 57 #[.pointer none, .bool x] w fun e w' => e = .returned (.bool false) ∧ w' = w := by
  go_enter Try.func57, Try.ntmps57
  go_wp2
  go_ret
  exact ⟨rfl, rfl⟩
set_option maxHeartbeats 400000 in
theorem ok_err {T : TypeId} {far : List Nat} {w : World} {b : Nat} {l : List Int} {e : Int} (h : Rd T far w b l e) (x : Bool) (he : e ≠ 0) : Calls Try.prog 57 #[.pointer (some ⟨b, 0, none⟩), .bool x] w fun e w' => e = .returned (.bool false) ∧ w' = w := by
  have hc := h.c1
  have hd : (e != 0) = true := by simpa using he
  clear h he
  go_enter Try.func57, Try.ntmps57
  go_wp2
  go_ret
  exact ⟨rfl, rfl⟩
set_option maxHeartbeats 400000 in
theorem ok_yes {T : TypeId} {far : List Nat} {w : World} {b : Nat} {l : List Int} (h : Rd T far w b l 0) : Calls Try.prog 57 #[.pointer (some ⟨b, 0, none⟩), .bool true] w fun e w' => e = .returned (.bool true) ∧ w' = w := by
  have hc := h.c1
  clear h
  go_enter Try.func57, Try.ntmps57
  go_wp2
  go_ret
  exact ⟨rfl, rfl⟩
set_option maxHeartbeats 400000 in
theorem ok_no {T : TypeId} {far : List Nat} {w : World} {b : Nat} {l : List Int} (h : Rd T far w b l 0) : Calls Try.prog 57 #[.pointer (some ⟨b, 0, none⟩), .bool false] w fun e w' => e = .returned (.bool false) ∧ Rd T far w' b l 2 ∧ w.grownBy w' (some b) := by
  have hc := h.c1
  have H := Lib.hid h
  clear h
  go_enter Try.func57, Try.ntmps57
  go_wp2_with fail
  refine (fail_any H.out 2).mono ?_
  rintro e w1 ⟨rfl, h1, hg⟩
  have H1 := Lib.hid h1
  have HG := Lib.hid hg
  clear h1 hg hc H
  go_wp2
  go_ret
  exact ⟨rfl, H1.out, HG.out⟩

theorem slice_hh (ad : Addr) (len c n : Nat) (h : n ≤ c) (w : World) : (Instr.slice 49 (.slice (some ad) len c) none (some (.int .i64 (n : Int))) (some (.int .i64 (n : Int)))).run Try.prog w = .ok (.slice (some ad) n n) w := by
  rw [run_slice_hm w 49 (some ad) len c (by kernel_rfl) .i64 .i64 n n (by omega) (by omega) (by omega), show ((sizeOf (Try.prog.elem 49)).run Try.prog w) = .ok 1 w by kernel_rfl]
  simp only [Result.andThen, sliced, Int.toNat_natCast, Nat.sub_zero]
  split <;> simp [Addr.add]
theorem slice_ll (ad : Addr) (len c n : Nat) (h : n ≤ len) (w : World) : (Instr.slice 49 (.slice (some ad) len c) (some (.int .i64 (n : Int))) none none).run Try.prog w = .ok (.slice (some (dropA ad c n)) (len - n) (c - n)) w := by
  rw [run_slice_l w 49 (some ad) len c (by kernel_rfl) .i64 n (by omega) (by omega), show ((sizeOf (Try.prog.elem 49)).run Try.prog w) = .ok 1 w by kernel_rfl]
  simp only [Result.andThen, sliced, Int.toNat_natCast, dropA, Nat.mul_one]
  split <;> simp
theorem slice_h (ad : Addr) (len c n : Nat) (h : n ≤ c) (w : World) : (Instr.slice 49 (.slice (some ad) len c) none (some (.int .i64 (n : Int))) none).run Try.prog w = .ok (.slice (some ad) n c) w := by
  rw [run_slice_h w 49 (some ad) len c (by kernel_rfl) .i64 n (by omega) (by omega), show ((sizeOf (Try.prog.elem 49)).run Try.prog w) = .ok 1 w by kernel_rfl]
  simp only [Result.andThen, sliced, Int.toNat_natCast, Nat.sub_zero]
  split <;> simp [Addr.add]

set_option maxHeartbeats 400000 in
theorem take_err {T : TypeId} {far : List Nat} {w : World} {b : Nat} {l : List Int} {e : Int} (h : Rd T far w b l e) (n : Int) (he : e ≠ 0) : Calls Try.prog 59 #[.pointer (some ⟨b, 0, none⟩), .int .i64 n] w fun e w' => e = .returned (.slice none 0 0) ∧ w' = w := by
  have hc := h.c1
  have hd : (e != 0) = true := by simpa using he
  clear h he
  go_enter Try.func59, Try.ntmps59
  go_wp2
  go_ret
  exact ⟨rfl, rfl⟩
set_option maxHeartbeats 400000 in
theorem take_end {T : TypeId} {far : List Nat} {w : World} {b : Nat} {l : List Int} (h : Rd T far w b l 0) (n : Nat) (hn : l.length < n) : Calls Try.prog 59 #[.pointer (some ⟨b, 0, none⟩), .int .i64 n] w fun e w' => e = .returned (.slice none 0 0) ∧ Rd T far w' b l 5 ∧ w.grownBy w' (some b) := by
  have H := Lib.hid h
  have hl := h.len
  obtain ⟨ad, c, h1, h2, h3, h4, h5, h6, h7⟩ := h
  obtain ⟨c0, c1⟩ := h1.two
  clear h1 h2 h4 h6 h7
  go_enter Try.func59, Try.ntmps59
  go_wp2_with fail
  refine (fail_any H.out 5).mono ?_
  rintro e w1 ⟨rfl, h1, hg⟩
  have H1 := Lib.hid h1
  have HG := Lib.hid hg
  clear h1 hg c0 c1 H
  go_wp2
  go_ret
  exact ⟨rfl, H1.out, HG.out⟩
set_option maxHeartbeats 400000 in
theorem take_yes' {T : TypeId} {far : List Nat} {w : World} {b : Nat} {l : List Int} (h : Rd T far w b l 0) (n : Nat) (hn : n ≤ l.length) : Calls Try.prog 59 #[.pointer (some ⟨b, 0, none⟩), .int .i64 n] w fun e w' => ∃ ad, e = .returned (.slice (some ad) n n) ∧ Row w' .u8 (some ad) (l.take n) ∧ Rd T far w' b (l.drop n) 0 ∧ w.grownBy w' (some b) ∧ (0 < l.length → ad.block ≠ b ∧ ∀ x ∈ far, ad.block ≠ x) := by
  have H := Lib.hid h
  have hl := h.len
  have hf := h.free 0
  obtain ⟨ad, c, h1, h2, h3, h4, h5, h6, h7⟩ := h
  have s1 := slice_hh ad l.length c n (by omega)
  have s2 := slice_ll ad l.length c n (by omega)
  obtain ⟨c0, c1⟩ := h1.two
  have H1 := Lib.hid h1
  have H2 := Lib.hid h2
  have H6 := Lib.hid h6
  have H7 := Lib.hid h7
  have H4 := Lib.hid h4
  clear h1 h2 h6 h7 h4
  go_enter Try.func59, Try.ntmps59
  go_wp2
  go_ret
  have hg := set_grown w b 0 (.slice (some (dropA ad c n)) (l.length - n) (c - n))
  refine ⟨ad, rfl, (H2.out.take n).grew' hg (fun h => (H7.out (by simp at h; omega)).1), ⟨dropA ad c n, c - n, ?_, (H2.out.drop n c h3 hn).grew' hg (fun h => ?_), by simp; omega, by have := H4.out; omega, by simp; omega, H6.out.drop n, fun h => ?_⟩, hg, H7.out⟩
  · have := Go.Joins.block_setCell H1.out (i := 0) (.slice (some (dropA ad c n)) (l.length - n) (c - n))
    rw [List.length_drop]
    exact this
  · rw [dropA_block]; exact (H7.out (by simp at h; omega)).1
  · rw [dropA_block]; exact H7.out (by simp at h; omega)
theorem take_yes {T : TypeId} {far : List Nat} {w : World} {b : Nat} {l : List Int} (h : Rd T far w b l 0) (n : Nat) (hn : n ≤ l.length) : Calls Try.prog 59 #[.pointer (some ⟨b, 0, none⟩), .int .i64 n] w fun e w' => ∃ ad, e = .returned (.slice (some ad) n n) ∧ Row w' .u8 (some ad) (l.take n) ∧ Rd T far w' b (l.drop n) 0 ∧ w.grownBy w' (some b) :=
  (take_yes' h n hn).mono fun _ _ ⟨ad, h1, h2, h3, h4, _⟩ => ⟨ad, h1, h2, h3, h4⟩
theorem cell_set_other {w : World} {p : Addr} {b i : Nat} {u v : Value} (hne : p.block ≠ b) (h : w.cell? p = some u) : (w.setCell ⟨b, i, none⟩ v).cell? p = some u :=
  (World.cell?_of_block (w := w) (Below.heap_setCell _ _ _ _ hne)).trans h
end Go.Proofs.Ytlndlcdamimbdaa
