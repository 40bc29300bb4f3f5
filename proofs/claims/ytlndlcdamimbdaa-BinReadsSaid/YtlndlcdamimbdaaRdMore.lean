/- The walks of bin's reader: Bytes, Key. -/
import Derived.Test.YtlndlcdamimbdaaRdOps
namespace Go.Proofs.Ytlndlcdamimbdaa
open Go.RowKit

theorem grown_alloc (w : World) (o : Obj) (r : Option Nat) : w.grownBy (w.alloc o) r := ⟨rfl, rfl, rfl, by simp, fun k hk _ => Below.heap_alloc w o k hk⟩
theorem grown_drew {w w1 : World} {r : Option Nat} (h : w.grownBy w1 r) : w.grownBy w1.drew r := ⟨h.os, h.tape, h.output, h.size, h.block⟩
theorem grown_own {w w1 : World} {r : Option Nat} (h : w.grownBy w1 r) {p : Addr} (hp : w.heap.size ≤ p.block) (u : Value) : w.grownBy (w1.setCell p u) r :=
  ⟨h.os, h.tape, h.output, by simpa [World.setCell] using h.size, fun k hk hne => (Below.heap_setCell _ _ _ _ (by omega)).trans (h.block k hk hne)⟩
theorem grown_none {w w1 : World} {r : Option Nat} (h : w.grownBy w1 none) : w.grownBy w1 r := ⟨h.os, h.tape, h.output, h.size, fun k hk _ => h.block k hk (by simp)⟩
theorem grown_below {w w1 : World} (h : w.grownBy w1 none) : Below w.heap.size w w1 := ⟨h.os, h.tape, h.output, h.size, fun k hk => h.block k hk (by simp)⟩
theorem below_grown {w w1 : World} {r : Option Nat} (h : Below w.heap.size w w1) : w.grownBy w1 r := ⟨h.os, h.tape, h.output, h.size, fun k hk _ => h.block k hk⟩

/-- append(nil, li...) of bytes in a plain region. -/
theorem append_nil_bytes {w : World} {ops : Array Oper} {rest : List Oper} {o : Oper} {a : Act} {Q : Exit → Act → World → Prop} (hgd : o.guard = none) (s x : Operand) (ho : o.op = .call { callee := .builtin .append, args := #[s, x], argTypes := #[49, 49] })
    (m : Nat) (li : List Int) (hm : li.length = m) (hs : a.eval s = .slice none 0 0)
    (A : Option Addr) (c : Nat) (hx : a.eval x = .slice A m c) (hrow : Row w .u8 A li) (hnil : A = none → c = 0) (hsz : m ≤ 1000000000)
    (h : ∀ A' cp' w', Row w' .u8 A' li → (0 < m → ∀ ad, A' = some ad → w.heap.size ≤ ad.block) → Below w.heap.size w w' → wpList Try.prog ops Q rest (a.put o.dst (.slice A' m cp')) w') : wpList Try.prog ops Q (o :: rest) a w := by
  subst hm
  obtain ⟨i0, hi, hz0, hz1, hz2⟩ := info_parts info5
  rcases A with _ | ad
  · obtain rfl := hrow.none_nil
    obtain rfl := hnil rfl
    refine wpList_append_own_none hgd s x 49 ho w.heap.size 5 i0 1 Try.underlying49 hi _ 0 [] hs (World.ownsRow_nil _ _ _ _) hx ?_
    exact h none 0 w (Row.nil _ _) (fun h => absurd h (by simp)) (Below.refl _ _)
  · refine wpList_append_own_at w hgd s x 49 ho w.heap.size 5 i0 (.int .u8 0) 1 1 Try.underlying49 hi hz0 hz1 hz2 rfl (by decide) _ 0 [] hs (World.ownsRow_nil _ _ _ _) ad li.length c (li.map (Value.int .u8)) hx (by simp) hrow.news (ints_one _ _) (by unfold maxLen; omega) (by omega) (Nat.le_refl _) ?_
    intro v w' hown' hgrow hiff hat
    rw [List.nil_append, Nat.zero_add] at hown'
    rcases hown'.2 with ⟨hv, hn0⟩ | ⟨g, cap, cur, hv, hg, r⟩
    · subst hv
      have e0 : li = [] := List.length_eq_zero_iff.1 hn0
      subst e0
      exact h none 0 w' (Row.nil _ _) (fun h => absurd h (by simp)) (grown_below hgrow)
    · have hne : v ≠ .slice none 0 0 := by rw [hv]; simp
      obtain ⟨_, g', cp', e1, hg', hr'⟩ := OwnRow.of' hown' hne
      rw [e1]
      exact h _ _ _ hr'.row (fun _ ad e => by injection e with e; subst e; exact hg') (grown_below hgrow)

/-- What Bytes tells, and what it leaves. -/
def byV (l : List Int) (e n : Int) : List Int := if 0 ≤ n then tkV l e n.toNat else []
def byE (l : List Int) (e n : Int) : Int := if 0 ≤ n then tkE l e n.toNat else if e ≠ 0 then e else 2
def byS (l : List Int) (e n : Int) : List Int := if 0 ≤ n then tkS l e n.toNat else l

set_option maxHeartbeats 800000 in
theorem bytesR_any {T : TypeId} {far : List Nat} {w : World} {b : Nat} {l : List Int} {e : Int} (h : Rd T far w b l e) (n : Int) : Calls Try.prog 47 #[.pointer (some ⟨b, 0, none⟩), .int .i64 n] w fun e' w' => ∃ A c, e' = .returned (.slice A (byV l e n).length c) ∧ Row w' .u8 A (byV l e n) ∧ (0 < (byV l e n).length → ∀ ad, A = some ad → w.heap.size ≤ ad.block) ∧ Rd T far w' b (byS l e n) (byE l e n) ∧ w.grownBy w' (some b) := by
  have H := Lib.hid h
  clear h
  by_cases he : e = 0
  · subst he
    by_cases hn : 0 ≤ n
    · obtain ⟨n, rfl⟩ := Int.eq_ofNat_of_zero_le hn
      clear hn
      by_cases hle : n ≤ l.length
      · have HV : Hid (byV l 0 n = l.take n ∧ byE l 0 n = 0 ∧ byS l 0 n = l.drop n) := by
          refine ⟨?_, ?_, ?_⟩
          · simp [byV, tkV]; intro h; omega
          · simp [byE, tkE]; omega
          · simp [byS, tkS]; omega
        have hll := H.out.len
        go_enter Try.func47, Try.ntmps47
        go_wp2_with fail
        refine (ok_yes H.out).mono ?_
        rintro e w1 ⟨rfl, rfl⟩
        go_wp2_with fail
        refine (take_yes H.out n hle).mono ?_
        rintro e w2 ⟨ad, rfl, hrow, h2, hg⟩
        have H2 := Lib.hid h2
        have HG := Lib.hid hg
        have HR := Lib.hid hrow
        clear h2 hg hrow H
        go_wp2_with (at_builtin; refine append_nil_bytes rfl (.const (.slice none 0 0)) (.tmp 14) rfl n (l.take n) (by rw [List.length_take]; omega) rfl (some ad) n rfl HR.out (fun e => by cases e) (by omega) ?_; intro A' cp' w3 hr3 hb3 hbel)
        have HR3 := Lib.hid hr3
        have HB3 := Lib.hid hb3
        have HL3 := Lib.hid hbel
        clear hr3 hb3 hbel
        go_ret
        refine ⟨A', cp', by rw [HV.out.1, List.length_take, Nat.min_eq_left hle]; rfl, by rw [HV.out.1]; exact HR3.out, fun h ad e => ?_, by rw [HV.out.2.1, HV.out.2.2]; exact Rd.after HL3.out H2.out, HG.out.trans (below_grown HL3.out)⟩
        rw [HV.out.1, List.length_take] at h
        have := HB3.out (by omega) ad e
        have := HG.out.size
        omega
      · have HV : Hid (byV l 0 n = [] ∧ byE l 0 n = 5 ∧ byS l 0 n = l) := by
          refine ⟨?_, ?_, ?_⟩
          · simp [byV, tkV]; intro h; omega
          · simp [byE, tkE]; omega
          · simp [byS, tkS]; omega
        have hlt : l.length < n := by omega
        go_enter Try.func47, Try.ntmps47
        go_wp2_with fail
        refine (ok_yes H.out).mono ?_
        rintro e w1 ⟨rfl, rfl⟩
        go_wp2_with fail
        refine (take_end H.out n hlt).mono ?_
        rintro e w2 ⟨rfl, h2, hg⟩
        have H2 := Lib.hid h2
        have HG := Lib.hid hg
        clear h2 hg H
        go_wp2_with (at_builtin; refine append_nil_bytes rfl (.const (.slice none 0 0)) (.tmp 14) rfl 0 [] rfl rfl none 0 rfl (Row.nil _ _) (fun _ => rfl) (by omega) ?_; intro A' cp' w3 hr3 hb3 hbel)
        have HR3 := Lib.hid hr3
        have HL3 := Lib.hid hbel
        clear hr3 hb3 hbel
        go_ret
        exact ⟨A', cp', by rw [HV.out.1]; rfl, by rw [HV.out.1]; exact HR3.out, fun h => by rw [HV.out.1] at h; simp at h, by rw [HV.out.2.1, HV.out.2.2]; exact Rd.after HL3.out H2.out, HG.out.trans (below_grown HL3.out)⟩
    · have HV : Hid (byV l 0 n = [] ∧ byE l 0 n = 2 ∧ byS l 0 n = l) := by
        refine ⟨?_, ?_, ?_⟩
        · unfold byV; rw [if_neg hn]
        · unfold byE; rw [if_neg hn, if_neg (by simp)]
        · unfold byS; rw [if_neg hn]
      go_enter Try.func47, Try.ntmps47
      go_wp2_with fail
      refine (ok_no H.out).mono ?_
      rintro e w1 ⟨rfl, h2, hg⟩
      have H2 := Lib.hid h2
      have HG := Lib.hid hg
      clear h2 hg H
      go_wp2
      go_ret
      exact ⟨none, 0, by rw [HV.out.1]; rfl, by rw [HV.out.1]; exact Row.nil _ _, fun h => by rw [HV.out.1] at h; simp at h, by rw [HV.out.2.1, HV.out.2.2]; exact H2.out, HG.out⟩
  · have HV : Hid (byV l e n = [] ∧ byE l e n = e ∧ byS l e n = l) := by
      refine ⟨?_, ?_, ?_⟩
      · unfold byV tkV; simp [he]
      · unfold byE tkE; simp [he]
      · unfold byS tkS; simp [he]
    have HE := Lib.hid he
    clear he
    have HK : Hid (∀ x, Calls Try.prog 57 #[.pointer (some ⟨b, 0, none⟩), .bool x] w fun e w' => e = .returned (.bool false) ∧ w' = w) := fun x => ok_err H.out x HE.out
    go_enter Try.func47, Try.ntmps47
    go_wp2_with fail
    refine (HK.out _).mono ?_
    rintro e w1 ⟨rfl, rfl⟩
    go_wp2
    go_ret
    exact ⟨none, 0, by rw [HV.out.1]; rfl, by rw [HV.out.1]; exact Row.nil _ _, fun h => by rw [HV.out.1] at h; simp at h, by rw [HV.out.2.1, HV.out.2.2]; exact H.out, grown_refl _ _⟩
end Go.Proofs.Ytlndlcdamimbdaa
