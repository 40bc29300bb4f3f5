/- Plain law: the bytes of a slot that may be are those that it was unpacked of. -/
import Derived.Test.YtlndlcdamimbdaaSlotPacks
import Derived.Test.YtlndlcdamimbdaaRefUnpack
namespace Go.Proofs.Ytlndlcdamimbdaa
open Go.RowKit

theorem sumL_inj : ∀ (l m : List Int), Byt l → Byt m → l.length = m.length → sumL l = sumL m → l = m := by
  intro l
  induction l with
  | nil => intro m _ _ h _; exact (List.length_eq_zero_iff.1 h.symm).symm
  | cons x l ih =>
    intro m hl hm h e
    cases m with
    | nil => simp at h
    | cons y m =>
      have h1 := hl x (by simp)
      have h2 := hm y (by simp)
      rw [sumL_cons, sumL_cons] at e
      have e1 : x = y := by omega
      have e2 := ih m (fun z hz => hl z (List.mem_cons_of_mem _ hz)) (fun z hz => hm z (List.mem_cons_of_mem _ hz)) (by simpa using h) (by omega)
      rw [e1, e2]
theorem fixL_sumL (m : List Int) (n : Nat) (hn : m.length = n) (hb : Byt m) : fixL (sumL m) n = m := by
  refine sumL_inj _ _ (byt_fixL _ _) hb (by rw [fixL_length, hn]) ?_
  rw [sumL_fixL, Nat.mod_eq_of_lt (by rw [← hn]; exact sumL_lt m hb)]
theorem pack_unp (l : List Int) (hl : l.length = 16) (hb : Byt l) (hm : mayS (unpS l) = true) : packL (unpS l).hi (unpS l).lo (unpS l).kind (unpS l).score (sumL ((l.drop 11).take 4)) (unpS l).age = l := by
  have hm' : mayS ⟨(unpS l).hi, (unpS l).lo, (unpS l).kind, (unpS l).score, (sumL ((l.drop 11).take 4) : Nat), (unpS l).age⟩ = true := hm
  rw [packL_eq _ _ _ _ _ _ hm']
  have e1 := fixL_sumL (l.take 8) 8 (by simp; omega) (hb.take 8)
  have e2 := fixL_sumL ((l.drop 11).take 4) 4 (by simp; omega) ((hb.drop 11).take 4)
  simp only [unpS, e1, e2]
  clear hm hm' e1 e2
  match l, hl with
  | [x0, x1, x2, x3, x4, x5, x6, x7, x8, x9, x10, x11, x12, x13, x14, x15], _ =>
    have h8 := hb x8 (by simp)
    have h9 := hb x9 (by simp)
    have h10 := hb x10 (by simp)
    have h15 := hb x15 (by simp)
    simp
    omega
end Go.Proofs.Ytlndlcdamimbdaa
