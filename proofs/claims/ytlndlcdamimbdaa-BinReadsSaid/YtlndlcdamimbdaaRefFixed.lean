/- The walk of the reference's Fixed. -/
import Derived.Test.YtlndlcdamimbdaaKey
namespace Go.Proofs.Ytlndlcdamimbdaa
open Go.RowKit

theorem own_none (w : World) : OwnRow (w.alloc (.cells #[] 5)) 5 .u8 w.heap.size 0 [] := ⟨_, heap_alloc_new w _, Nat.le_refl _, by decide, rfl, rfl⟩
theorem pow_step (v i : Nat) : v / 256 ^ i / 256 = v / 256 ^ (i + 1) := by rw [Nat.div_div_eq_div_mul, Nat.pow_succ]
theorem fixL_step (v i : Nat) : fixL v (i + 1) = fixL v i ++ [((v / 256 ^ i % 256 : Nat) : Int)] := by
  rw [fixL_succ, Int.natCast_emod, Int.natCast_ediv, Int.natCast_pow, Int.pow_mul]
  rfl

/-- append(all, li...) of bytes in a plain region, the lengths named. -/
theorem append_bytes {w : World} {ops : Array Oper} {rest : List Oper} {o : Oper} {a : Act} {Q : Exit → Act → World → Prop} (hgd : o.guard = none) (s x : Operand) (ho : o.op = .call { callee := .builtin .append, args := #[s, x], argTypes := #[49, 49] })
    (base g cp n m : Nat) (all li : List Int) (hn : all.length = n) (hm : li.length = m) (hs : a.eval s = .slice (some ⟨g, 0, none⟩) n cp) (hown : OwnRow w 5 .u8 g cp all) (hg : base ≤ g) (hbase : base ≤ w.heap.size)
    (ad : Addr) (c : Nat) (hx : a.eval x = .slice (some ad) m c) (hrow : Row w .u8 (some ad) li) (hsz : n + m ≤ 1000000000)
    (h : ∀ g' cp' w', OwnRow w' 5 .u8 g' cp' (all ++ li) → base ≤ g' → w.grownBy w' (some g) → wpList Try.prog ops Q rest (a.put o.dst (.slice (some ⟨g', 0, none⟩) (n + m) cp')) w') : wpList Try.prog ops Q (o :: rest) a w := by
  subst hn
  subst hm
  exact wpList_append_rows hgd s x 49 ho 5 .u8 1 Try.underlying49 info5 (by decide) base g cp all li hs hown hg hbase (some ad) c hx hrow (fun e => by cases e) hsz (fun g' cp' w' h1 h2 h3 _ => h g' cp' w' h1 h2 h3)

set_option maxHeartbeats 1600000 in
theorem refFixed_yes (v n : Nat) (w : World) (h1 : 1 ≤ n) (h8 : n ≤ 8) (hv : v < 18446744073709551616) (hf : v / 256 ^ n = 0) : Calls Try.prog 33 #[.int .u64 v, .int .i64 n] w fun e w' => ∃ g cp, w.heap.size ≤ g ∧ e = .returned (.slice (some ⟨g, 0, none⟩) n cp) ∧ OwnRow w' 5 .u8 g cp (fixL v n) ∧ Below w.heap.size w w' := by
  have HF := Lib.hid hf
  clear hf
  go_enter Try.func33, Try.ntmps33
  go_wp2
  go_loopw [0, 5, 6] (fun v0 v5 v6 wr => ∃ (i g cp q : Nat), i ≤ n ∧ v6 = .int .i64 i ∧ v0 = .int .u64 q ∧ q < 18446744073709551616 ∧ Hid (q = v / 256 ^ i) ∧ v5 = .slice (some ⟨g, 0, none⟩) i cp ∧ w.heap.size ≤ g ∧ Hid (OwnRow wr 5 .u8 g cp (fixL v i)) ∧ Below w.heap.size w wr) (fun _ _ x _ => n - (intOf x).toNat)
  case atStart => exact ⟨0, w.heap.size, 0, v, by omega, rfl, rfl, hv, by show v = _; simp, rfl, Nat.le_refl _, own_none w, (Below.refl _ w).alloc (Nat.le_refl _) _⟩
  case round =>
    obtain ⟨i, g, cp, q, hi, rfl, rfl, hq, HQ, rfl, hg, HV, HB⟩ := hrel
    have hlt := HV.out.lt
    by_cases hlt : i < n
    · go_wp2_with (at_builtin; refine append_bytes rfl (.tmp 19) (.tmp 23) rfl w.heap.size g cp i 1 (fixL v i) [(q : Int) % 256] (fixL_length _ _) rfl rfl (HV.out.alloc _) hg (by have := HB.size; (try simp); omega) ⟨wr.heap.size, 0, none⟩ 1 rfl (Row.new wr .u8 [_] 5 (0, 0) (by simp)) (by omega) ?_; intro g' cp' w2 hown2 hg2 hgrow)
      have HS : Hid (OwnRow w2 5 .u8 g' cp' (fixL v (i + 1))) := by
        rw [fixL_step, ← HQ.out]; exact hown2
      have HB2 : Below w.heap.size w w2 := Below.grown (HB.alloc HB.size _) hgrow (by have := HB.size; (try simp); omega) (by intro r hr; simp at hr; omega)
      have HQ2 : Hid (q / 256 = v / 256 ^ (i + 1)) := by
        rw [← pow_step, ← HQ.out]; rfl
      clear hown2 hgrow HV HB HQ
      go_wp2
      go_roundw
      case rel => exact ⟨i + 1, g', cp', q / 256, by omega, by go_num, by simp, by omega, HQ2, rfl, hg2, HS, HB2⟩
      case measure => simp [intOf]; omega
    · obtain rfl : i = n := by omega
      have hq0 : q = 0 := HQ.out.trans HF.out
      subst hq0
      go_wp2
      go_ret
      exact ⟨g, cp, hg, rfl, HV.out, HB⟩
end Go.Proofs.Ytlndlcdamimbdaa
