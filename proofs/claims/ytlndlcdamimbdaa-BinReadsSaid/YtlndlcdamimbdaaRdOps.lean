/- The walks of bin's reader: NewReader, Fixed, Bytes, Left, Err. -/
import Derived.Test.YtlndlcdamimbdaaRdSum
namespace Go.Proofs.Ytlndlcdamimbdaa
open Go.RowKit

/-- append(all, li...) of bytes in a plain region, the lengths named; li may be nil. -/
theorem append_bytes_any {w : World} {ops : Array Oper} {rest : List Oper} {o : Oper} {a : Act} {Q : Exit → Act → World → Prop} (hgd : o.guard = none) (s x : Operand) (ho : o.op = .call { callee := .builtin .append, args := #[s, x], argTypes := #[49, 49] })
    (base g cp n m k : Nat) (all li : List Int) (hn : all.length = n) (hm : li.length = m) (hk : n + m = k) (hs : a.eval s = .slice (some ⟨g, 0, none⟩) n cp) (hown : OwnRow w 5 .u8 g cp all) (hg : base ≤ g) (hbase : base ≤ w.heap.size)
    (A : Option Addr) (c : Nat) (hx : a.eval x = .slice A m c) (hrow : Row w .u8 A li) (hnil : A = none → c = 0) (hsz : k ≤ 1000000000)
    (h : ∀ g' cp' w', OwnRow w' 5 .u8 g' cp' (all ++ li) → base ≤ g' → w.grownBy w' (some g) → wpList Try.prog ops Q rest (a.put o.dst (.slice (some ⟨g', 0, none⟩) k cp')) w') : wpList Try.prog ops Q (o :: rest) a w := by
  subst hn
  subst hm
  subst hk
  exact wpList_append_rows hgd s x 49 ho 5 .u8 1 Try.underlying49 info5 (by decide) base g cp all li hs hown hg hbase A c hx hrow hnil hsz (fun g' cp' w' h1 h2 h3 _ => h g' cp' w' h1 h2 h3)
theorem OwnRow.cap {w : World} {e : TypeId} {kd : IntKind} {g cap : Nat} {l : List Int} (h : OwnRow w e kd g cap l) : l.length ≤ cap ∧ cap ≤ maxLen := by
  obtain ⟨cur, hh, hle, hm, hs, ht⟩ := h
  exact ⟨hle, hm⟩

set_option maxHeartbeats 800000 in
theorem newReader_any {w : World} {A : Option Addr} {c : Nat} {l : List Int} (h : Row w .u8 A l) (hb : Byt l) (hnil : A = none → c = 0) (hl : l.length ≤ 100000) : Calls Try.prog 38 #[.slice A l.length c] w fun e w' => ∃ b, w.heap.size ≤ b ∧ e = .returned (.pointer (some ⟨b, 0, none⟩)) ∧ Rd 80 [] w' b l 0 ∧ Below w.heap.size w w' := by
  have H := Lib.hid h
  have HB := Lib.hid hb
  have HN := Lib.hid hnil
  clear h hb hnil
  go_enter Try.func38, Try.ntmps38
  go_wp2_with (at_builtin; refine append_bytes_any rfl (.tmp 3) (.tmp 4) rfl w.heap.size w.heap.size 0 0 l.length l.length [] l rfl rfl (by omega) rfl (own_none w) (Nat.le_refl _) (by (try simp)) A c rfl (H.out.alloc _) HN.out (by omega) ?_; intro g cp w1 hown hg hgrow)
  have HO := Lib.hid hown
  have HB1 := Lib.hid (Below.grown ((Below.refl _ w).alloc (Nat.le_refl _) _) hgrow (by simp) (by intro r hr; simp at hr; omega))
  have hs1 : w.heap.size ≤ w1.heap.size := HB1.out.size
  clear hown hgrow
  go_wp2
  go_ret
  have hlt := HO.out.lt
  refine ⟨w1.heap.size, hs1, rfl, ⟨⟨g, 0, none⟩, cp, Blk.new _ _ _, (HO.out.row.alloc _), HO.out.cap.1, HO.out.cap.2, hl, HB.out, fun _ => ⟨by show g ≠ _; omega, by simp⟩⟩, HB1.out.alloc hs1 _⟩

set_option maxHeartbeats 400000 in
theorem leftC {T : TypeId} {far : List Nat} {w : World} {b : Nat} {l : List Int} {e : Int} (h : Rd T far w b l e) : Calls Try.prog 61 #[.pointer (some ⟨b, 0, none⟩)] w fun e w' => e = .returned (.int .i64 l.length) ∧ w' = w := by
  obtain ⟨ad, c, h1, _⟩ := h
  have hc := h1.two.1
  clear h1
  go_enter Try.func61, Try.ntmps61
  go_wp2
  go_ret
  exact ⟨rfl, rfl⟩
set_option maxHeartbeats 400000 in
theorem errC {T : TypeId} {far : List Nat} {w : World} {b : Nat} {l : List Int} {e : Int} (h : Rd T far w b l e) : Calls Try.prog 62 #[.pointer (some ⟨b, 0, none⟩)] w fun e' w' => e' = .returned (.int .i64 e) ∧ w' = w := by
  have hc := h.c1
  clear h
  go_enter Try.func62, Try.ntmps62
  go_wp2
  go_ret
  exact ⟨rfl, rfl⟩
set_option maxHeartbeats 400000 in
theorem left_any {T : TypeId} {far : List Nat} {w : World} {b : Nat} {l : List Int} {e : Int} (h : Rd T far w b l e) : Calls Try.prog 42 #[.pointer (some ⟨b, 0, none⟩)] w fun e w' => e = .returned (.int .i64 l.length) ∧ w' = w := by
  have H := Lib.hid h
  clear h
  go_enter Try.func42, Try.ntmps42
  go_wp2_with fail
  refine (leftC H.out).mono ?_
  rintro e w1 ⟨rfl, rfl⟩
  go_wp2
  go_ret
  exact ⟨rfl, rfl⟩
set_option maxHeartbeats 400000 in
theorem err_any {T : TypeId} {far : List Nat} {w : World} {b : Nat} {l : List Int} {e : Int} (h : Rd T far w b l e) : Calls Try.prog 43 #[.pointer (some ⟨b, 0, none⟩)] w fun e' w' => e' = .returned (.int .i64 e) ∧ w' = w := by
  have H := Lib.hid h
  clear h
  go_enter Try.func43, Try.ntmps43
  go_wp2_with fail
  refine (errC H.out).mono ?_
  rintro e w1 ⟨rfl, rfl⟩
  go_wp2
  go_ret
  exact ⟨rfl, rfl⟩

/-- What Fixed tells, and what it leaves. -/
def fxV (l : List Int) (e n : Int) : Nat := if 1 ≤ n ∧ n ≤ 8 then sumL (tkV l e n.toNat) else 0
def fxE (l : List Int) (e n : Int) : Int := if 1 ≤ n ∧ n ≤ 8 then tkE l e n.toNat else if e ≠ 0 then e else 2
def fxS (l : List Int) (e n : Int) : List Int := if 1 ≤ n ∧ n ≤ 8 then tkS l e n.toNat else l
theorem ret_u64' {a b : Int} (h : a = b) : Ending.returned (.int .u64 a) = .returned (.int .u64 b) := by rw [h]

set_option maxHeartbeats 800000 in
theorem fixedR_any {T : TypeId} {far : List Nat} {w : World} {b : Nat} {l : List Int} {e : Int} (h : Rd T far w b l e) (n : Int) : Calls Try.prog 41 #[.pointer (some ⟨b, 0, none⟩), .int .i64 n] w fun e' w' => e' = .returned (.int .u64 (fxV l e n)) ∧ Rd T far w' b (fxS l e n) (fxE l e n) ∧ w.grownBy w' (some b) := by
  have H := Lib.hid h
  clear h
  by_cases he : e = 0
  · subst he
    by_cases hn : 1 ≤ n ∧ n ≤ 8
    · obtain ⟨n, rfl⟩ := Int.eq_ofNat_of_zero_le (show 0 ≤ n by omega)
      obtain ⟨hn1, hn8⟩ := hn
      by_cases hle : n ≤ l.length
      · have HV : Hid (fxV l 0 n = sumL (l.take n) ∧ fxE l 0 n = 0 ∧ fxS l 0 n = l.drop n) := by
          refine ⟨?_, ?_, ?_⟩
          · simp [fxV, hn1, hn8, tkV]; rw [if_neg (by omega)]
          · simp [fxE, hn1, hn8, tkE]; omega
          · simp [fxS, hn1, hn8, tkS]; omega
        go_enter Try.func41, Try.ntmps41
        go_wp2_with fail
        refine (ok_yes H.out).mono ?_
        rintro e w1 ⟨rfl, rfl⟩
        go_wp2_with fail
        refine (take_yes H.out n hle).mono ?_
        rintro e w2 ⟨ad, rfl, hrow, h2, hg⟩
        have H2 := Lib.hid h2
        have HG := Lib.hid hg
        have HR := Lib.hid hrow
        have HS : Hid (Calls Try.prog 60 #[.slice (some ad) n n] w2 fun e w' => e = .returned (.int .u64 (sumL (l.take n))) ∧ w' = w2) := by
          have := sum_any (c := n) hrow (H.out.byt.take n) (by simp; omega)
          rw [List.length_take, Nat.min_eq_left hle] at this
          exact this
        clear h2 hg hrow H
        go_wp2_with fail
        refine HS.out.mono ?_
        rintro e w3 ⟨rfl, rfl⟩
        clear HS
        go_wp2
        go_ret
        exact ⟨by rw [HV.out.1]; rfl, by rw [HV.out.2.1, HV.out.2.2]; exact H2.out, HG.out⟩
      · have HV : Hid (fxV l 0 n = 0 ∧ fxE l 0 n = 5 ∧ fxS l 0 n = l) := by
          refine ⟨?_, ?_, ?_⟩
          · simp [fxV, hn1, hn8, tkV]; rw [if_pos (by omega)]; rfl
          · simp [fxE, hn1, hn8, tkE]; omega
          · simp [fxS, hn1, hn8, tkS]; omega
        have hlt : l.length < n := by omega
        go_enter Try.func41, Try.ntmps41
        go_wp2_with fail
        refine (ok_yes H.out).mono ?_
        rintro e w1 ⟨rfl, rfl⟩
        go_wp2_with fail
        refine (take_end H.out n hlt).mono ?_
        rintro e w2 ⟨rfl, h2, hg⟩
        have H2 := Lib.hid h2
        have HG := Lib.hid hg
        clear h2 hg H
        go_wp2_with fail
        refine (sum_nil w2).mono ?_
        rintro e w3 ⟨rfl, rfl⟩
        go_wp2
        go_ret
        exact ⟨by rw [HV.out.1]; rfl, by rw [HV.out.2.1, HV.out.2.2]; exact H2.out, HG.out⟩
    · have HV : Hid (fxV l 0 n = 0 ∧ fxE l 0 n = 2 ∧ fxS l 0 n = l) := by
        refine ⟨?_, ?_, ?_⟩
        · unfold fxV; rw [if_neg hn]
        · unfold fxE; rw [if_neg hn, if_neg (by simp)]
        · unfold fxS; rw [if_neg hn]
      by_cases h1 : 1 ≤ n
      · have h8 : ¬ n ≤ 8 := by omega
        have h8' : 8 < n := by omega
        clear hn
        go_enter Try.func41, Try.ntmps41
        go_wp2_with fail
        refine (ok_no H.out).mono ?_
        rintro e w1 ⟨rfl, h2, hg⟩
        have H2 := Lib.hid h2
        have HG := Lib.hid hg
        clear h2 hg H
        go_wp2
        go_ret
        exact ⟨by rw [HV.out.1]; rfl, by rw [HV.out.2.1, HV.out.2.2]; exact H2.out, HG.out⟩
      · clear hn
        go_enter Try.func41, Try.ntmps41
        go_wp2_with fail
        refine (ok_no H.out).mono ?_
        rintro e w1 ⟨rfl, h2, hg⟩
        have H2 := Lib.hid h2
        have HG := Lib.hid hg
        clear h2 hg H
        go_wp2
        go_ret
        exact ⟨by rw [HV.out.1]; rfl, by rw [HV.out.2.1, HV.out.2.2]; exact H2.out, HG.out⟩
  · have HV : Hid (fxV l e n = 0 ∧ fxE l e n = e ∧ fxS l e n = l) := by
      refine ⟨?_, ?_, ?_⟩
      · unfold fxV tkV; simp [he]; intro _ _; rfl
      · unfold fxE tkE; simp [he]
      · unfold fxS tkS; simp [he]
    have HE := Lib.hid he
    clear he
    have HK : Hid (∀ x, Calls Try.prog 57 #[.pointer (some ⟨b, 0, none⟩), .bool x] w fun e w' => e = .returned (.bool false) ∧ w' = w) := fun x => ok_err H.out x HE.out
    by_cases h1 : 1 ≤ n
    · go_enter Try.func41, Try.ntmps41
      go_wp2_with fail
      refine (HK.out _).mono ?_
      rintro e w1 ⟨rfl, rfl⟩
      go_wp2
      go_ret
      exact ⟨by rw [HV.out.1]; rfl, by rw [HV.out.2.1, HV.out.2.2]; exact H.out, grown_refl _ _⟩
    · go_enter Try.func41, Try.ntmps41
      go_wp2_with fail
      refine (HK.out _).mono ?_
      rintro e w1 ⟨rfl, rfl⟩
      go_wp2
      go_ret
      exact ⟨by rw [HV.out.1]; rfl, by rw [HV.out.2.1, HV.out.2.2]; exact H.out, grown_refl _ _⟩
end Go.Proofs.Ytlndlcdamimbdaa
