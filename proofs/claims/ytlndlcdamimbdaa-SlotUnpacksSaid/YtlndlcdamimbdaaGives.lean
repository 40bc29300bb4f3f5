/- What Fixed, Num and Key write, whatever they are asked: bin's and the reference's. -/
import Derived.Test.YtlndlcdamimbdaaRdKey
import Derived.Test.YtlndlcdamimbdaaNumW
import Derived.Test.YtlndlcdamimbdaaRefKey
namespace Go.Proofs.Ytlndlcdamimbdaa
open Go.RowKit

/-- Bytes of the call's own are handed back. -/
def Gives (w : World) (L : List Int) (e : Ending) (w' : World) : Prop :=
  ∃ A c, e = .returned (.slice A L.length c) ∧ Row w' .u8 A L ∧ Below w.heap.size w w'
theorem Gives.own {w w' : World} {L : List Int} {e : Ending} {g n cp : Nat} (hn : L.length = n) (h : e = .returned (.slice (some ⟨g, 0, none⟩) n cp) ∧ OwnRow w' 5 .u8 g cp L ∧ Below w.heap.size w w') : Gives w L e w' := by
  subst hn
  exact ⟨_, _, h.1, h.2.1.row, h.2.2⟩
theorem Gives.none {w w' : World} {L : List Int} {e : Ending} (hn : L = []) (h : e = .returned (.slice none 0 0) ∧ Below w.heap.size w w') : Gives w L e w' := by
  subst hn
  exact ⟨_, _, h.1, Row.nil _ _, h.2⟩

def fixW (v : Nat) (n : Int) : List Int := if 1 ≤ n ∧ n ≤ 8 ∧ (n = 8 ∨ v < 2 ^ (8 * n.toNat)) then fixL v n.toNat else []
def numW (z : Int) : List Int := if 0 ≤ z then numL z.toNat else []
def keyW (hi lo : Nat) : List Int := if hi < 256 then fixL lo 8 ++ [(hi : Int)] else []

set_option maxHeartbeats 800000 in
theorem fixed_no (v : Nat) (n : Int) (w : World) (_hv : v < 18446744073709551616) (h : ¬ (1 ≤ n ∧ n ≤ 8 ∧ (n = 8 ∨ v < 2 ^ (8 * n.toNat)))) : Calls Try.prog 32 #[.int .u64 v, .int .i64 n] w fun e w' => e = .returned (.slice none 0 0) ∧ w' = w := by
  by_cases h1 : 1 ≤ n
  · by_cases h8 : n ≤ 8
    · obtain ⟨n, rfl⟩ := Int.eq_ofNat_of_zero_le (show 0 ≤ n by omega)
      have hlt : ¬ (n : Int) = 8 := fun e => h ⟨h1, h8, .inl e⟩
      have hge : 2 ^ (8 * n) ≤ v := by
        have := fun hh => h ⟨h1, h8, .inr hh⟩
        simpa using this
      have h7 : (n : Int) < 8 := by omega
      have hz : ((v : Int) / 2 ^ (8 * n) != 0) = true := by
        have : 0 < v / 2 ^ (8 * n) := Nat.div_pos hge (Nat.pow_pos (by omega))
        have h2 : ((v : Int) / 2 ^ (8 * n)) = ((v / 2 ^ (8 * n) : Nat) : Int) := by simp
        rw [h2]
        simp
        omega
      clear h hge
      go_enter Try.func32, Try.ntmps32
      go_wp2
      go_ret
      exact ⟨rfl, rfl⟩
    · clear h
      have h8' : 8 < n := by omega
      go_enter Try.func32, Try.ntmps32
      go_wp2
      go_ret
      exact ⟨rfl, rfl⟩
  · clear h
    have h1' : n < 1 := by omega
    go_enter Try.func32, Try.ntmps32
    go_wp2
    go_ret
    exact ⟨rfl, rfl⟩
set_option maxHeartbeats 1600000 in
theorem refFixed_no (v : Nat) (n : Int) (w : World) (hv : v < 18446744073709551616) (h : ¬ (1 ≤ n ∧ n ≤ 8 ∧ (n = 8 ∨ v < 2 ^ (8 * n.toNat)))) : Calls Try.prog 33 #[.int .u64 v, .int .i64 n] w fun e w' => e = .returned (.slice none 0 0) ∧ Below w.heap.size w w' := by
  by_cases h1 : 1 ≤ n
  · by_cases h8 : n ≤ 8
    · obtain ⟨n, rfl⟩ := Int.eq_ofNat_of_zero_le (show 0 ≤ n by omega)
      have hge : 2 ^ (8 * n) ≤ v := by
        have := fun hh => h ⟨h1, h8, .inr hh⟩
        simpa using this
      have HF : Hid (0 < v / 256 ^ n) := by
        rw [show (256 : Nat) ^ n = 2 ^ (8 * n) from (Nat.pow_mul 2 8 n).symm]
        exact Nat.div_pos hge (Nat.pow_pos (by omega))
      clear h hge
      go_enter Try.func33, Try.ntmps33
      go_wp2
      go_loopw [0, 5, 6] (fun v0 v5 v6 wr => ∃ (i g cp q : Nat), i ≤ n ∧ v6 = .int .i64 i ∧ v0 = .int .u64 q ∧ q < 18446744073709551616 ∧ Hid (q = v / 256 ^ i) ∧ v5 = .slice (some ⟨g, 0, none⟩) i cp ∧ w.heap.size ≤ g ∧ Hid (OwnRow wr 5 .u8 g cp (fixL v i)) ∧ Below w.heap.size w wr) (fun _ _ x _ => n - (intOf x).toNat)
      case atStart => exact ⟨0, w.heap.size, 0, v, by omega, rfl, rfl, hv, by show v = _; simp, rfl, Nat.le_refl _, own_none w, (Below.refl _ w).alloc (Nat.le_refl _) _⟩
      case round =>
        obtain ⟨i, g, cp, q, hi, rfl, rfl, hq, HQ, rfl, hg, HV, HB⟩ := hrel
        have hlt := HV.out.lt
        by_cases hlt : i < n
        · go_wp2_with (at_builtin; refine append_bytes rfl (.tmp 19) (.tmp 23) rfl w.heap.size g cp i 1 (fixL v i) [(q : Int) % 256] (fixL_length _ _) rfl rfl (HV.out.alloc _) hg (by have := HB.size; (try simp); omega) ⟨wr.heap.size, 0, none⟩ 1 rfl (Row.new wr .u8 [_] 5 (0, 0) (by simp)) (by omega) ?_; intro g' cp' w2 hown2 hg2 hgrow)
          have HS : Hid (OwnRow w2 5 .u8 g' cp' (fixL v (i + 1))) := by
            rw [fixL_step, ← HQ.out]; exact hown2
          have HB2 : Below w.heap.size w w2 := Below.grown (HB.alloc HB.size _) hgrow (by have := HB.size; (try simp); omega) (by intro r hr; simp at hr; omega)
          have HQ2 : Hid (q / 256 = v / 256 ^ (i + 1)) := by
            rw [← pow_step, ← HQ.out]; rfl
          clear hown2 hgrow HV HB HQ
          go_wp2
          go_roundw
          case rel => exact ⟨i + 1, g', cp', q / 256, by omega, by go_num, by simp, by omega, HQ2, rfl, hg2, HS, HB2⟩
          case measure => simp [intOf]; omega
        · obtain rfl : i = n := by omega
          have hq0 : 0 < q := by rw [HQ.out]; exact HF.out
          go_wp2
          go_ret
          exact ⟨rfl, HB⟩
    · clear h
      have h8' : 8 < n := by omega
      go_enter Try.func33, Try.ntmps33
      go_wp2
      go_ret
      exact ⟨rfl, Below.refl _ _⟩
  · clear h
    have h1' : n < 1 := by omega
    go_enter Try.func33, Try.ntmps33
    go_wp2
    go_ret
    exact ⟨rfl, Below.refl _ _⟩
set_option maxHeartbeats 800000 in
theorem key_no (hi lo : Nat) (w : World) (h : 255 < hi) : Calls Try.prog 36 #[.agg #[.int .u64 hi, .int .u64 lo]] w fun e w' => e = .returned (.slice none 0 0) ∧ Below w.heap.size w w' := by
  have hge : decide ((255 : Int) < hi) = true := decide_eq_true (by omega)
  go_enter Try.func36, Try.ntmps36
  go_wp2
  go_ret
  exact ⟨rfl, (Below.refl _ w).alloc (Nat.le_refl _) _⟩
set_option maxHeartbeats 800000 in
theorem refKey_no (hi lo : Nat) (w : World) (h : 255 < hi) : Calls Try.prog 37 #[.agg #[.int .u64 hi, .int .u64 lo]] w fun e w' => e = .returned (.slice none 0 0) ∧ Below w.heap.size w w' := by
  have hge : decide ((256 : Int) ≤ hi) = true := decide_eq_true (by omega)
  go_enter Try.func37, Try.ntmps37
  go_wp2
  go_ret
  exact ⟨rfl, (Below.refl _ w).alloc (Nat.le_refl _) _⟩

theorem fixed_w (v : Nat) (n : Int) (w : World) (hv : v < 18446744073709551616) : Calls Try.prog 32 #[.int .u64 v, .int .i64 n] w (Gives w (fixW v n)) := by
  by_cases h : 1 ≤ n ∧ n ≤ 8 ∧ (n = 8 ∨ v < 2 ^ (8 * n.toNat))
  · obtain ⟨n, rfl⟩ := Int.eq_ofNat_of_zero_le (show 0 ≤ n by omega)
    have hL : fixW v n = fixL v n := by unfold fixW; rw [if_pos h]; rfl
    rw [hL]
    refine (fixed_yes v n w (by omega) (by omega) ?_).mono fun e w' ⟨g, cp, _, he, ho, hb⟩ => Gives.own (fixL_length _ _) ⟨he, ho, hb⟩
    rcases h.2.2 with h | h
    · exact .inl (by omega)
    · exact .inr (by simpa using h)
  · have hL : fixW v n = [] := by unfold fixW; rw [if_neg h]
    refine (fixed_no v n w hv h).mono fun e w' ⟨he, hw⟩ => Gives.none hL ⟨he, by rw [hw]; exact Below.refl _ _⟩
theorem refFixed_w (v : Nat) (n : Int) (w : World) (hv : v < 18446744073709551616) : Calls Try.prog 33 #[.int .u64 v, .int .i64 n] w (Gives w (fixW v n)) := by
  by_cases h : 1 ≤ n ∧ n ≤ 8 ∧ (n = 8 ∨ v < 2 ^ (8 * n.toNat))
  · obtain ⟨n, rfl⟩ := Int.eq_ofNat_of_zero_le (show 0 ≤ n by omega)
    have hL : fixW v n = fixL v n := by unfold fixW; rw [if_pos h]; rfl
    rw [hL]
    refine (refFixed_yes v n w (by omega) (by omega) hv ?_).mono fun e w' ⟨g, cp, _, he, ho, hb⟩ => Gives.own (fixL_length _ _) ⟨he, ho, hb⟩
    rw [show (256 : Nat) ^ n = 2 ^ (8 * n) from (Nat.pow_mul 2 8 n).symm]
    rcases h.2.2 with h | h
    · obtain rfl : n = 8 := by omega
      exact Nat.div_eq_of_lt (by simpa using hv)
    · exact Nat.div_eq_of_lt (by simpa using h)
  · have hL : fixW v n = [] := by unfold fixW; rw [if_neg h]
    exact (refFixed_no v n w hv h).mono fun e w' h => Gives.none hL h
theorem num_w (z : Int) (w : World) (hz : z < 9223372036854775808) : Calls Try.prog 34 #[.int .i64 z] w (Gives w (numW z)) := by
  by_cases h : 0 ≤ z
  · obtain ⟨n, rfl⟩ := Int.eq_ofNat_of_zero_le h
    have hL : numW n = numL n := by unfold numW; rw [if_pos h]; rfl
    rw [hL]
    exact (num_yes n w (by omega)).mono fun e w' ⟨g, cp, _, he, ho, hb⟩ => Gives.own rfl ⟨he, ho, hb⟩
  · have hL : numW z = [] := by unfold numW; rw [if_neg h]
    exact (num_neg z w (by omega)).mono fun e w' ⟨he, hw⟩ => Gives.none hL ⟨he, by rw [hw]; exact Below.refl _ _⟩
theorem refNum_w (z : Int) (w : World) (hz : z < 9223372036854775808) : Calls Try.prog 35 #[.int .i64 z] w (Gives w (numW z)) := by
  by_cases h : 0 ≤ z
  · obtain ⟨n, rfl⟩ := Int.eq_ofNat_of_zero_le h
    have hL : numW n = numL n := by unfold numW; rw [if_pos h]; rfl
    rw [hL]
    exact (refNum_yes n w (by omega)).mono fun e w' ⟨g, cp, _, he, ho, hb⟩ => Gives.own rfl ⟨he, ho, hb⟩
  · have hL : numW z = [] := by unfold numW; rw [if_neg h]
    exact (refNum_neg z w (by omega)).mono fun e w' ⟨he, hw⟩ => Gives.none hL ⟨he, by rw [hw]; exact Below.refl _ _⟩
theorem key_w (hi lo : Nat) (w : World) : Calls Try.prog 36 #[.agg #[.int .u64 hi, .int .u64 lo]] w (Gives w (keyW hi lo)) := by
  by_cases h : hi < 256
  · have hL : keyW hi lo = fixL lo 8 ++ [(hi : Int)] := by unfold keyW; rw [if_pos h]
    rw [hL]
    exact (key_yes hi lo w h).mono fun e w' ⟨g, cp, _, he, ho, hb⟩ => Gives.own (by simp [fixL_length]) ⟨he, ho, hb⟩
  · have hL : keyW hi lo = [] := by unfold keyW; rw [if_neg h]
    exact (key_no hi lo w (by omega)).mono fun e w' h => Gives.none hL h
theorem refKey_w (hi lo : Nat) (w : World) (hlo : lo < 18446744073709551616) : Calls Try.prog 37 #[.agg #[.int .u64 hi, .int .u64 lo]] w (Gives w (keyW hi lo)) := by
  by_cases h : hi < 256
  · have hL : keyW hi lo = fixL lo 8 ++ [(hi : Int)] := by unfold keyW; rw [if_pos h]
    rw [hL]
    exact (refKey_yes hi lo w h hlo).mono fun e w' ⟨g, cp, _, he, ho, hb⟩ => Gives.own (by simp [fixL_length]) ⟨he, ho, hb⟩
  · have hL : keyW hi lo = [] := by unfold keyW; rw [if_neg h]
    exact (refKey_no hi lo w (by omega)).mono fun e w' h => Gives.none hL h
end Go.Proofs.Ytlndlcdamimbdaa
