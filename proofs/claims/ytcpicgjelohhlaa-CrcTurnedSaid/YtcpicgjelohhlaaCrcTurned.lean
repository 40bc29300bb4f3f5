/- The walk of the law CrcTurned. -/
import Derived.Test.YtcpicgjelohhlaaCrcBurst
import Derived.Deep.RegionHeld3
namespace Go.Proofs.Ytcpicgjelohhlaa
open Go.RowKit

/-- What each step of the law's last statement keeps. -/
def St (w0 : World) (A B : Option Addr) (l x : List Int) (w : World) : Prop := Row w .u8 A l ∧ Row w .u8 B x ∧ Below w0.heap.size w0 w
theorem St.next {w0 w : World} {A B : Option Addr} {l x : List Int} {w1 : World} (h : St w0 A B l x w) (hb : Below w.heap.size w w1) : St w0 A B l x w1 := ⟨h.1.below hb, h.2.1.below hb, h.2.2.trans (hb.mono h.2.2.size)⟩
theorem live_st {w0 w : World} {A B : Option Addr} {l x : List Int} (h : St w0 A B l x w) : Calls Try.prog 10 #[] w fun e w' => e = .returned (.bool true) ∧ St w0 A B l x w' := (live_any w).mono fun _ _ ⟨he, hb⟩ => ⟨he, h.next hb⟩
theorem ofA_st {w0 w : World} {A B : Option Addr} {l x : List Int} (h : St w0 A B l x w) (cap n : Nat) (hn : l.length = n) : Calls Try.prog 11 #[.slice A n cap] w fun e w' => e = .returned (.int .u32 (moreF 0 l)) ∧ St w0 A B l x w' := by
  subst hn
  exact (of_any A cap l w h.1).mono fun _ _ ⟨he, hb⟩ => ⟨he, h.next hb⟩
theorem ofB_st {w0 w : World} {A B : Option Addr} {l x : List Int} (h : St w0 A B l x w) (cap n : Nat) (hn : x.length = n) : Calls Try.prog 11 #[.slice B n cap] w fun e w' => e = .returned (.int .u32 (moreF 0 x)) ∧ St w0 A B l x w' := by
  subst hn
  exact (of_any B cap x w h.2.1).mono fun _ _ ⟨he, hb⟩ => ⟨he, h.next hb⟩
theorem convA_st {w0 w : World} {A B : Option Addr} {l x : List Int} (h : St w0 A B l x w) (c n : Nat) (hn : l.length = n) : Sem.run Try.prog (convert 22 9 (.slice A n c)) w = .ok (.string (strOfNums l)) w := by
  subst hn; exact h.1.string Try.underlying22 Try.underlying5 Try.underlying9
theorem convB_st {w0 w : World} {A B : Option Addr} {l x : List Int} (h : St w0 A B l x w) (c n : Nat) (hn : x.length = n) : Sem.run Try.prog (convert 22 9 (.slice B n c)) w = .ok (.string (strOfNums x)) w := by
  subst hn; exact h.2.1.string Try.underlying22 Try.underlying5 Try.underlying9

theorem str_ext {s t : ByteArray} (h : s.toList = t.toList) : s = t := by
  rw [ByteArray.toList_eq, ByteArray.toList_eq] at h
  cases s; cases t
  simp at h
  rw [h]

/-- The two comparisons of the law's last statement agree. -/
theorem found (bs : List Nat) (hb : ∀ b ∈ bs, b < 256) (a n : Nat) (hn : n < 4294967296) (ha : a < 8 * bs.length) :
    ((moreF 0 ((turnB bs a n 32).map Int.ofNat) == moreF 0 (bs.map Int.ofNat)) == ((strOfNums ((turnB bs a n 32).map Int.ofNat)).toList == (strOfNums (bs.map Int.ofNat)).toList)) = true := by
  have hx := turnB_lt hb a n 32
  have e1 : moreF 0 ((turnB bs a n 32).map Int.ofNat) = (checkN 0 (turnB bs a n 32) : Int) := moreF_nat (by decide) _ hx
  have e2 : moreF 0 (bs.map Int.ofNat) = (checkN 0 bs : Int) := moreF_nat (by decide) _ hb
  rw [e1, e2]
  by_cases h : turnB bs a n 32 = bs
  · rw [h]; simp
  · have h1 : ((checkN 0 (turnB bs a n 32) : Int) == (checkN 0 bs : Int)) = false := beq_eq_false_iff_ne.2 fun e => h (burst bs hb a n hn ha (by exact_mod_cast e))
    have h2 : ((strOfNums ((turnB bs a n 32).map Int.ofNat)).toList == (strOfNums (bs.map Int.ofNat)).toList) = false := beq_eq_false_iff_ne.2 fun e => h (str_inj hx hb (str_ext e))
    rw [h1, h2]; rfl

set_option maxHeartbeats 800000 in
theorem turned_main (cap : Nat) (bs : List Nat) (hbs : ∀ b ∈ bs, b < 256) (a n : Nat) (w : World) (A : Option Addr) (hr : Row w .u8 A (bs.map Int.ofNat)) (h0 : 0 < bs.length) (hm : bs.length ≤ 1000) (ha : a < 65536) (hn : n < 4294967296) :
    Calls Try.prog 4 #[.slice A bs.length cap, .int .u16 a, .int .u32 n] w fun e w' => e = .returned (.bool true) ∧ Below w.heap.size w w' := by
  have h5 : ((bs.length : Int) == 0) = false := beq_eq_false_iff_ne.2 (by omega)
  have h8 : decide ((1000 : Int) < bs.length) = false := by simp; omega
  have HR := Lib.hid hr
  have HBS := Lib.hid hbs
  clear hr hbs
  have HM : Hid (((a : Int) % (8 * (bs.length : Int))) = ((a % (8 * bs.length) : Nat) : Int)) := by
    show _ = _
    rw [Int.natCast_emod, Int.natCast_mul]; rfl
  have HF := Lib.hid (found bs HBS.out (a % (8 * bs.length)) n hn (Nat.mod_lt _ (by omega)))
  go_enter Try.func4, Try.ntmps4
  go_wp2_with fail
  rw [HM.out]
  refine (turn_any A cap bs HBS.out (a % (8 * bs.length)) n w HR.out h0 hm (Nat.mod_lt _ (by omega)) hn).mono ?_
  rintro e w1 ⟨g, cp, rfl, hg, hv, hb⟩
  have HL := Lib.hid (turnB_length bs (a % (8 * bs.length)) n 32)
  generalize turnB bs (a % (8 * bs.length)) n 32 = xs at *
  have HS : Hid (St w A (some ⟨g, 0, none⟩) (bs.map Int.ofNat) (xs.map Int.ofNat) w1) := ⟨HR.out.below hb, hv.row, hb⟩
  clear HR HM hv hb hg
  go_wp2_with fail
  have hcA : ∀ w', St w A (some ⟨g, 0, none⟩) (bs.map Int.ofNat) (xs.map Int.ofNat) w' → Sem.run Try.prog (convert 22 9 (.slice A bs.length cap)) w' = .ok (.string (strOfNums (bs.map Int.ofNat))) w' := fun w' h => convA_st h _ _ (by simp)
  have hcB : ∀ w', St w A (some ⟨g, 0, none⟩) (bs.map Int.ofNat) (xs.map Int.ofNat) w' → Sem.run Try.prog (convert 22 9 (.slice (some ⟨g, 0, none⟩) bs.length cp)) w' = .ok (.string (strOfNums (xs.map Int.ofNat))) w' := fun w' h => convB_st h _ _ (by simp; exact HL.out)
  have hS := HS.out.next (Below.refl _ _).drew
  go_region_held3 (fun w' => St w A (some ⟨g, 0, none⟩) (bs.map Int.ofNat) (xs.map Int.ofNat) w') (first | assumption) (first | (go_at_call 10; refine (live_st ‹_›).mono ?_; rintro e w' ⟨rfl, hst⟩) | (go_at_call 11; first | (refine (ofA_st ‹_› _ _ (by simp)).mono ?_; rintro e w' ⟨rfl, hst⟩) | (refine (ofB_st ‹_› _ _ (by simp; exact HL.out)).mono ?_; rintro e w' ⟨rfl, hst⟩)))
  clear hcA hcB
  go_wp2
  go_ret
  exact ⟨congrArg (fun b => Ending.returned (.bool b)) HF.out, hst.2.2⟩

set_option maxHeartbeats 400000 in
theorem crcTurned_walk (A : Option Addr) (cap : Nat) (l : List Int) (a n : Int) (w : World) (hr : Row w .u8 A l) (hw : ∀ x ∈ l, (Lit.int .u8 x).wf = true) (ha : (Lit.int .u16 a).wf = true) (hn : (Lit.int .u32 n).wf = true) :
    Calls Try.prog 4 #[.slice A l.length cap, .int .u16 a, .int .u32 n] w fun e w' => e = .returned (.bool true) ∧ Below w.heap.size w w' := by
  have hm := hr.1
  by_cases h : 0 < l.length ∧ l.length ≤ 1000
  · obtain ⟨bs, rfl, hb⟩ := bytes_nat l hw
    have ha' : 0 ≤ a ∧ a < 65536 := by
      have e1 : IntKind.u16.min = 0 := by decide
      have e2 : IntKind.u16.max = 65535 := by decide
      simp [Lit.wf, e1, e2] at ha; omega
    have hn' : 0 ≤ n ∧ n < 4294967296 := by
      have e1 : IntKind.u32.min = 0 := by decide
      have e2 : IntKind.u32.max = 4294967295 := by decide
      simp [Lit.wf, e1, e2] at hn; omega
    obtain ⟨a, rfl⟩ := Int.eq_ofNat_of_zero_le ha'.1
    obtain ⟨n, rfl⟩ := Int.eq_ofNat_of_zero_le hn'.1
    rw [List.length_map] at h ⊢
    exact turned_main cap bs hb a n w A hr h.1 h.2 (by omega) (by omega)
  · clear hw ha hn hr
    by_cases h0 : l.length = 0
    · have h5 : ((l.length : Int) == 0) = true := beq_iff_eq.2 (by omega)
      have h8 : decide ((1000 : Int) < l.length) = false := by simp; omega
      clear h h0
      go_enter Try.func4, Try.ntmps4
      go_wp2_with fail
      refine (live_any _).mono ?_
      rintro e w1 ⟨rfl, hb⟩
      have HB := Lib.hid hb; clear hb
      go_wp2
      go_ret
      exact ⟨rfl, HB⟩
    · have h8 : decide ((1000 : Int) < l.length) = true := by simp; omega
      clear h h0
      go_enter Try.func4, Try.ntmps4
      go_wp2_with fail
      refine (live_any _).mono ?_
      rintro e w1 ⟨rfl, hb⟩
      have HB := Lib.hid hb; clear hb
      go_wp2
      go_ret
      exact ⟨rfl, HB⟩
end Go.Proofs.Ytcpicgjelohhlaa
