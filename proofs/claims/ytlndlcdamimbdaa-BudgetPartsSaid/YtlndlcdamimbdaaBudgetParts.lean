/- The walk of the law BudgetParts. -/
import Derived.Test.YtlndlcdamimbdaaBudgetTwo
namespace Go.Proofs.Ytlndlcdamimbdaa
open Go.RowKit

/-- A row of yes and no that is read. -/
def BRow (w : World) (A : Option Addr) (l : List Bool) : Prop := l.length ≤ 9223372036854775807 ∧ ∀ i, (h : i < l.length) → ∃ ad, A = some ad ∧ w.cell? (ad.add i) = some (.bool l[i])

/-- A budget in block b, its part in block p, the reference's two in blocks r and s; nothing that stood before has turned. -/
def Four (w0 : World) (b p r s : Nat) (bl : Int) (bs : Nat) (pl : Int) (ps : Nat) (n : Int) (R : Nat) (m : Int) (S : Nat) (w : World) : Prop :=
  Bud w b bl bs none ∧ Bud w p pl ps (some ⟨b, 0, none⟩) ∧ w.heap[r]? = some (.cells #[.int .i64 n, .int .i64 R] 30 (0, 0)) ∧ w.heap[s]? = some (.cells #[.int .i64 m, .int .i64 S] 30 (0, 0)) ∧ (w0.heap.size ≤ b ∧ b < p ∧ p < r ∧ r < s) ∧ Below w0.heap.size w0 w
theorem Four.cells {w0 w : World} {b p r s : Nat} {bl : Int} {bs : Nat} {pl : Int} {ps : Nat} {n : Int} {R : Nat} {m : Int} {S : Nat} (h : Four w0 b p r s bl bs pl ps n R m S w) : (w.cell? ⟨r, 0, none⟩ = some (.int .i64 n) ∧ w.cell? ⟨r, 1, none⟩ = some (.int .i64 R)) ∧ w.cell? ⟨s, 0, none⟩ = some (.int .i64 m) ∧ w.cell? ⟨s, 1, none⟩ = some (.int .i64 S) := by
  obtain ⟨_, _, h3, h4, _⟩ := h
  exact ⟨⟨Go.Joins.cell_of_block h3 0, Go.Joins.cell_of_block h3 1⟩, Go.Joins.cell_of_block h4 0, Go.Joins.cell_of_block h4 1⟩
theorem Four.fr {w0 w : World} {b p r s : Nat} {bl : Int} {bs : Nat} {pl : Int} {ps : Nat} {n : Int} {R : Nat} {m : Int} {S : Nat} (h : Four w0 b p r s bl bs pl ps n R m S w) : w.frozen? ⟨r, 1, none⟩ = false ∧ w.frozen? ⟨s, 1, none⟩ = false :=
  ⟨Go.Joins.unfrozen_of_block h.2.2.1 1, Go.Joins.unfrozen_of_block h.2.2.2.1 1⟩
theorem Four.drew {w0 w : World} {b p r s : Nat} {bl : Int} {bs : Nat} {pl : Int} {ps : Nat} {n : Int} {R : Nat} {m : Int} {S : Nat} (h : Four w0 b p r s bl bs pl ps n R m S w) : Four w0 b p r s bl bs pl ps n R m S w.drew := ⟨h.1, h.2.1, h.2.2.1, h.2.2.2.1, h.2.2.2.2.1, h.2.2.2.2.2.drew⟩
theorem Four.next {w0 w : World} {b p r s : Nat} {bl : Int} {bs : Nat} {pl : Int} {ps : Nat} {n : Int} {R : Nat} {m : Int} {S : Nat} {w1 : World} (h : Four w0 b p r s bl bs pl ps n R m S w) (hb : Below w.heap.size w w1) : Four w0 b p r s bl bs pl ps n R m S w1 :=
  ⟨h.1.kept (hb.block _ h.1.lt), h.2.1.kept (hb.block _ h.2.1.lt), (hb.block _ (lt_of_block h.2.2.1)).trans h.2.2.1, (hb.block _ (lt_of_block h.2.2.2.1)).trans h.2.2.2.1, h.2.2.2.2.1, below_step h.2.2.2.2.2 hb⟩
theorem Four.setB {w0 w : World} {b p r s : Nat} {bl : Int} {bs : Nat} {pl : Int} {ps : Nat} {n : Int} {R : Nat} {m : Int} {S : Nat} {w1 : World} {bl' : Int} {bs' : Nat} (h : Four w0 b p r s bl bs pl ps n R m S w) (h1 : Bud w1 b bl' bs' none) (hg : w.grownBy w1 (some b)) : Four w0 b p r s bl' bs' pl ps n R m S w1 := by
  obtain ⟨a1, a2, a3, a4, ⟨o1, o2, o3, o4⟩, a6⟩ := h
  exact ⟨h1, a2.kept (hg.block _ a2.lt (fun e => by injection e with e; omega)), (hg.block _ (lt_of_block a3) (fun e => by injection e with e; omega)).trans a3, (hg.block _ (lt_of_block a4) (fun e => by injection e with e; omega)).trans a4, ⟨o1, o2, o3, o4⟩, a6.grown hg a6.size (fun k hk => by injection hk with hk; omega)⟩
theorem Four.setP {w0 w : World} {b p r s : Nat} {bl : Int} {bs : Nat} {pl : Int} {ps : Nat} {n : Int} {R : Nat} {m : Int} {S : Nat} {w1 : World} {pl' : Int} {ps' : Nat} (h : Four w0 b p r s bl bs pl ps n R m S w) (h1 : Bud w1 p pl' ps' (some ⟨b, 0, none⟩)) (hg : w.grownBy w1 (some p)) : Four w0 b p r s bl bs pl' ps' n R m S w1 := by
  obtain ⟨a1, a2, a3, a4, ⟨o1, o2, o3, o4⟩, a6⟩ := h
  exact ⟨a1.kept (hg.block _ a1.lt (fun e => by injection e with e; omega)), h1, (hg.block _ (lt_of_block a3) (fun e => by injection e with e; omega)).trans a3, (hg.block _ (lt_of_block a4) (fun e => by injection e with e; omega)).trans a4, ⟨o1, o2, o3, o4⟩, a6.grown hg a6.size (fun k hk => by injection hk with hk; omega)⟩
theorem Four.moreR {w0 w : World} {b p r s : Nat} {bl : Int} {bs : Nat} {pl : Int} {ps : Nat} {n : Int} {R : Nat} {m : Int} {S : Nat} (h : Four w0 b p r s bl bs pl ps n R m S w) : Four w0 b p r s bl bs pl ps n (R + 1) m S (w.setCell ⟨r, 1, none⟩ (.int .i64 ((R : Int) + 1))) := by
  obtain ⟨a1, a2, a3, a4, ⟨o1, o2, o3, o4⟩, a6⟩ := h
  exact ⟨a1.kept (Below.heap_setCell _ _ _ _ (by show _ ≠ r; omega)), a2.kept (Below.heap_setCell _ _ _ _ (by show _ ≠ r; omega)), Go.Joins.block_setCell a3 (i := 1) _, (Below.heap_setCell _ _ _ _ (by show _ ≠ r; omega)).trans a4, ⟨o1, o2, o3, o4⟩, a6.setCell (by show _ ≤ r; omega) _⟩
theorem Four.moreS {w0 w : World} {b p r s : Nat} {bl : Int} {bs : Nat} {pl : Int} {ps : Nat} {n : Int} {R : Nat} {m : Int} {S : Nat} (h : Four w0 b p r s bl bs pl ps n R m S w) : Four w0 b p r s bl bs pl ps n R m (S + 1) (w.setCell ⟨s, 1, none⟩ (.int .i64 ((S : Int) + 1))) := by
  obtain ⟨a1, a2, a3, a4, ⟨o1, o2, o3, o4⟩, a6⟩ := h
  exact ⟨a1.kept (Below.heap_setCell _ _ _ _ (by show _ ≠ s; omega)), a2.kept (Below.heap_setCell _ _ _ _ (by show _ ≠ s; omega)), (Below.heap_setCell _ _ _ _ (by show _ ≠ s; omega)).trans a3, Go.Joins.block_setCell a4 (i := 1) _, ⟨o1, o2, o3, o4⟩, a6.setCell (by show _ ≤ s; omega) _⟩

theorem four_refR {w0 w : World} {b p r s : Nat} {bl : Int} {bs : Nat} {pl : Int} {ps : Nat} {n : Int} {R : Nat} {m : Int} {S : Nat} (h : Four w0 b p r s bl bs pl ps n R m S w) (hk : R ≤ 1000) (hkn : 0 ≤ n → (R : Int) ≤ n) (hn : n ≤ 4611686018427387904) : Calls Try.prog 18 #[.agg #[.int .i64 n, .int .i64 R]] w fun e w' => e = .returned (.int .i64 (leftF n R)) ∧ Four w0 b p r s bl bs pl ps n R m S w' :=
  (refLeft_any n R w hk hkn hn).mono fun _ _ ⟨he, hb⟩ => ⟨he, h.next hb⟩
theorem four_refS {w0 w : World} {b p r s : Nat} {bl : Int} {bs : Nat} {pl : Int} {ps : Nat} {n : Int} {R : Nat} {m : Int} {S : Nat} (h : Four w0 b p r s bl bs pl ps n R m S w) (hk : S ≤ 1000) (hkn : 0 ≤ m → (S : Int) ≤ m) (hn : m ≤ 4611686018427387904) : Calls Try.prog 18 #[.agg #[.int .i64 m, .int .i64 S]] w fun e w' => e = .returned (.int .i64 (leftF m S)) ∧ Four w0 b p r s bl bs pl ps n R m S w' :=
  (refLeft_any m S w hk hkn hn).mono fun _ _ ⟨he, hb⟩ => ⟨he, h.next hb⟩
theorem four_leftB {w0 w : World} {b p r s : Nat} {bl : Int} {bs : Nat} {pl : Int} {ps : Nat} {n : Int} {R : Nat} {m : Int} {S : Nat} (h : Four w0 b p r s bl bs pl ps n R m S w) : Calls Try.prog 20 #[.pointer (some ⟨b, 0, none⟩)] w fun e w' => e = .returned (.int .i64 bl) ∧ Four w0 b p r s bl bs pl ps n R m S w' :=
  (left_one b bl bs w h.1).mono fun _ _ ⟨he, hw⟩ => ⟨he, hw ▸ h⟩
theorem four_leftP {w0 w : World} {b p r s : Nat} {bl : Int} {bs : Nat} {pl : Int} {ps : Nat} {n : Int} {R : Nat} {m : Int} {S : Nat} (h : Four w0 b p r s bl bs pl ps n R m S w) (h1 : -1 ≤ pl) (h2 : -1 ≤ bl) : Calls Try.prog 20 #[.pointer (some ⟨p, 0, none⟩)] w fun e w' => e = .returned (.int .i64 (lessR bl pl)) ∧ Four w0 b p r s bl bs pl ps n R m S w' :=
  (left_two b p bl bs pl ps w h.1 h.2.1).mono fun _ _ ⟨he, hw⟩ => ⟨by rw [he, less_eq pl bl h1 h2], hw ▸ h⟩
theorem four_spentB {w0 w : World} {b p r s : Nat} {bl : Int} {bs : Nat} {pl : Int} {ps : Nat} {n : Int} {R : Nat} {m : Int} {S : Nat} (h : Four w0 b p r s bl bs pl ps n R m S w) : Calls Try.prog 21 #[.pointer (some ⟨b, 0, none⟩)] w fun e w' => e = .returned (.int .i64 bs) ∧ Four w0 b p r s bl bs pl ps n R m S w' :=
  (spent_any b bl bs none w h.1).mono fun _ _ ⟨he, hw⟩ => ⟨he, hw ▸ h⟩
theorem four_spentP {w0 w : World} {b p r s : Nat} {bl : Int} {bs : Nat} {pl : Int} {ps : Nat} {n : Int} {R : Nat} {m : Int} {S : Nat} (h : Four w0 b p r s bl bs pl ps n R m S w) : Calls Try.prog 21 #[.pointer (some ⟨p, 0, none⟩)] w fun e w' => e = .returned (.int .i64 ps) ∧ Four w0 b p r s bl bs pl ps n R m S w' :=
  (spent_any p pl ps _ w h.2.1).mono fun _ _ ⟨he, hw⟩ => ⟨he, hw ▸ h⟩
theorem four_less {w0 w : World} {b p r s : Nat} {bl : Int} {bs : Nat} {pl : Int} {ps : Nat} {n : Int} {R : Nat} {m : Int} {S : Nat} (h : Four w0 b p r s bl bs pl ps n R m S w) (x y : Int) : Calls Try.prog 30 #[.int .i64 x, .int .i64 y] w fun e w' => e = .returned (.int .i64 (lessR x y)) ∧ Four w0 b p r s bl bs pl ps n R m S w' :=
  (refLess_any x y w).mono fun _ _ ⟨he, hw⟩ => ⟨he, hw ▸ h⟩
theorem four_live {w0 w : World} {b p r s : Nat} {bl : Int} {bs : Nat} {pl : Int} {ps : Nat} {n : Int} {R : Nat} {m : Int} {S : Nat} (h : Four w0 b p r s bl bs pl ps n R m S w) : Calls Try.prog 17 #[] w fun e w' => e = .returned (.bool true) ∧ Four w0 b p r s bl bs pl ps n R m S w' :=
  (live26_any w).mono fun _ _ ⟨he, hb⟩ => ⟨he, h.next hb⟩
theorem four_takeB {w0 w : World} {b p r s : Nat} {bl : Int} {bs : Nat} {pl : Int} {ps : Nat} {n : Int} {R : Nat} {m : Int} {S : Nat} (h : Four w0 b p r s bl bs pl ps n R m S w) (h0 : bl ≠ 0) (hs : bs ≤ 1000) (hl : bl ≤ 4611686018427387904) : Calls Try.prog 19 #[.pointer (some ⟨b, 0, none⟩)] w fun e w' => e = .returned (.bool true) ∧ Four w0 b p r s (decB bl) (bs + 1) pl ps n R m S w' :=
  (take_one_yes b bl bs w h.1 h0 hs hl).mono fun _ _ ⟨he, h1, hg⟩ => ⟨he, h.setB h1 hg⟩
theorem four_takeB_no {w0 w : World} {b p r s : Nat} {bl : Int} {bs : Nat} {pl : Int} {ps : Nat} {n : Int} {R : Nat} {m : Int} {S : Nat} (h : Four w0 b p r s bl bs pl ps n R m S w) (h0 : bl = 0) : Calls Try.prog 19 #[.pointer (some ⟨b, 0, none⟩)] w fun e w' => e = .returned (.bool false) ∧ Four w0 b p r s bl bs pl ps n R m S w' := by
  subst h0
  exact (take_one_no b bs w h.1).mono fun _ _ ⟨he, hw⟩ => ⟨he, hw ▸ h⟩
theorem four_takeP {w0 w : World} {b p r s : Nat} {bl : Int} {bs : Nat} {pl : Int} {ps : Nat} {n : Int} {R : Nat} {m : Int} {S : Nat} (h : Four w0 b p r s bl bs pl ps n R m S w) (h0 : pl ≠ 0) (h1 : bl ≠ 0) (hs : bs ≤ 1000) (hps : ps ≤ 1000) (hl : bl ≤ 4611686018427387904) (hpl : pl ≤ 4611686018427387904) : Calls Try.prog 19 #[.pointer (some ⟨p, 0, none⟩)] w fun e w' => e = .returned (.bool true) ∧ Four w0 b p r s (decB bl) (bs + 1) (decB pl) (ps + 1) n R m S w' :=
  (take_two_yes b p bl pl bs ps w h.1 h.2.1 (by have := h.2.2.2.2.1; omega) h0 h1 hs hps hl hpl).mono fun _ _ ⟨he, w1, ⟨h3, g3⟩, h4, g4⟩ => ⟨he, (h.setP h3 g3).setB h4 g4⟩
theorem four_takeP_no {w0 w : World} {b p r s : Nat} {bl : Int} {bs : Nat} {pl : Int} {ps : Nat} {n : Int} {R : Nat} {m : Int} {S : Nat} (h : Four w0 b p r s bl bs pl ps n R m S w) (h0 : pl = 0 ∨ bl = 0) : Calls Try.prog 19 #[.pointer (some ⟨p, 0, none⟩)] w fun e w' => e = .returned (.bool false) ∧ Four w0 b p r s bl bs pl ps n R m S w' := by
  by_cases hp : pl = 0
  · subst hp
    exact (take_two_p b p ps w h.2.1).mono fun _ _ ⟨he, hw⟩ => ⟨he, hw ▸ h⟩
  · have hb : bl = 0 := by omega
    subst hb
    exact (take_two_b b p bs pl ps w h.1 h.2.1 hp).mono fun _ _ ⟨he, hw⟩ => ⟨he, hw ▸ h⟩

theorem leftF_ge (n : Int) (k : Nat) (h : 0 ≤ n → (k : Int) ≤ n) : -1 ≤ leftF n k := by
  unfold leftF
  split
  · omega
  · have := h (by omega); omega

set_option maxRecDepth 100000 in
set_option maxHeartbeats 12800000 in
theorem parts_main (n m0 : Int) (A : Option Addr) (c : Nat) (l : List Bool) (w : World) (hn : mayB n = true) (hm : mayB m0 = true) (hr : BRow w A l) : Calls Try.prog 6 #[.int .i64 n, .int .i64 m0, .slice A l.length c] w fun e w' => e = .returned (.bool true) ∧ Below w.heap.size w w' := by
  have HNB : Hid (-1 ≤ n ∧ n ≤ 4611686018427387904) := Lib.hid (of_decide_eq_true hn)
  have hmb : -1 ≤ m0 ∧ m0 ≤ 4611686018427387904 := of_decide_eq_true hm
  have HMB0 : Hid (-1 ≤ lessR n m0 ∧ lessR n m0 ≤ 4611686018427387904) := Lib.hid ⟨lessR_ge _ _ HNB.out.1 hmb.1, lessR_le _ _ HNB.out.2 hmb.2⟩
  have HLC : Hid (lessC m0 n = lessR n m0) := Lib.hid (less_eq m0 n hmb.1 HNB.out.1)
  have HM := Lib.hid hm
  have HN := Lib.hid hn
  have HR := Lib.hid hr
  have hll := hr.1
  clear hmb hm hn hr
  go_enter Try.func6, Try.ntmps6
  go_wp2_with fail
  refine (new_yes n w HN.out).mono ?_
  rintro e w1 ⟨rfl, h1, b1⟩
  have H1 := Lib.hid h1
  have B1 := Lib.hid b1
  clear h1 b1
  go_wp2_with fail
  refine (part_yes w.heap.size n 0 m0 w1 H1.out HM.out).mono ?_
  rintro e w2 ⟨rfl, h2, b2⟩
  have H2 : Hid (Bud w2 w1.heap.size (lessR n m0) 0 (some ⟨w.heap.size, 0, none⟩)) := Lib.hid (by rw [← HLC.out]; exact h2)
  have H1' := Lib.hid (H1.out.kept (b2.block _ H1.out.lt))
  have B2 := Lib.hid (below_step B1.out b2)
  have hlt1 := H1.out.lt
  have hs2 := H2.out.lt
  clear h2 b2 H1 B1
  go_wp2_with fail
  refine (refMay_any m0 w2).mono ?_
  rintro e w3 ⟨rfl, rfl⟩
  rw [HM.out]
  go_wp2_with fail
  refine (refLess_any n m0 _).mono ?_
  rintro e w4 ⟨rfl, rfl⟩
  go_wp2
  obtain ⟨b, HB⟩ : ∃ k, Hid (w.heap.size = k) := ⟨_, Lib.hid rfl⟩
  obtain ⟨p, HP⟩ : ∃ k, Hid (w1.heap.size = k) := ⟨_, Lib.hid rfl⟩
  obtain ⟨r, HRR⟩ : ∃ k, Hid (w3.heap.size = k) := ⟨_, Lib.hid rfl⟩
  obtain ⟨s, HSS⟩ : ∃ k, Hid (w3.heap.size + 1 = k) := ⟨_, Lib.hid rfl⟩
  have HF : Hid (Four w b p r s (leftF n 0) 0 (leftF (lessR n m0) 0) 0 n 0 (lessR n m0) 0 ((w3.alloc (.cells #[.int .i64 n, .int .i64 0] 30)).alloc (.cells #[.int .i64 (lessR n m0), .int .i64 0] 30))) := by
    have e0 : ∀ x : Int, -1 ≤ x → leftF x 0 = x := by
      intro x hx
      unfold leftF
      split
      · omega
      · simp
    rw [e0 n HNB.out.1, e0 _ HMB0.out.1, ← HB.out, ← HP.out, ← HRR.out, ← HSS.out]
    have q1 := heap_alloc_new w3 (.cells #[.int .i64 n, .int .i64 0] 30)
    have q2 := heap_alloc_new (w3.alloc (.cells #[.int .i64 n, .int .i64 0] 30)) (.cells #[.int .i64 (lessR n m0), .int .i64 0] 30)
    rw [World.size_alloc] at q2
    have hbb : Below w3.heap.size w3 ((w3.alloc (.cells #[.int .i64 n, .int .i64 0] 30)).alloc (.cells #[.int .i64 (lessR n m0), .int .i64 0] 30)) := ((Below.refl _ w3).alloc (Nat.le_refl _) _).alloc (by simp) _
    exact ⟨H1'.out.kept (hbb.block _ H1'.out.lt), H2.out.kept (hbb.block _ hs2), (Below.heap_alloc _ _ _ (by simp)).trans q1, q2, ⟨Nat.le_refl _, hlt1, by omega, by omega⟩, below_step B2.out hbb⟩
  obtain ⟨m, HMM⟩ : ∃ k, Hid (lessR n m0 = k) := ⟨_, Lib.hid rfl⟩
  have HMB := HMB0
  rw [HMM.out] at HF HMB
  try rw [HB.out]
  try rw [HP.out]
  try rw [HSS.out]
  try rw [HRR.out]
  try rw [HMM.out]
  clear H2 H1' B2 HLC HM HN HMB0 hs2 hlt1
  go_loopw [13] (fun v wr => ∃ i R S : Nat, R ≤ i ∧ S ≤ i ∧ i ≤ 100 ∧ v = .int .i64 i ∧ Hid (0 ≤ n → (R : Int) ≤ n) ∧ Hid (0 ≤ m → (S : Int) ≤ m) ∧ Hid (Four w b p r s (leftF n R) R (leftF m S) S n R m S wr)) (fun v _ => 100 - (intOf v).toNat)
  case atStart => exact ⟨0, 0, 0, by omega, by omega, by omega, rfl, Lib.hid (fun h => h), Lib.hid (fun h => h), HF⟩
  case round =>
    clear HF HB HP HRR HSS HMM
    obtain ⟨i, R, S, hRi, hSi, hi, rfl, HKN, HKS, HF⟩ := hrel
    have HRle := Lib.hid (leftF_le n R HNB.out.2)
    have HSle := Lib.hid (leftF_le m S HMB.out.2)
    by_cases hlt : i < l.length ∧ i < 100
    · obtain ⟨hl1, hl2⟩ := hlt
      obtain ⟨ad, e, dw⟩ := HR.out.2 i hl1
      subst e
      have hcl := HF.out.cells
      obtain ⟨⟨r0, r1⟩, s0, s1⟩ := hcl
      clear s0 s1
      go_wp2_with fail
      refine (four_refR HF.out (by omega) HKN.out HNB.out.2).mono ?_
      rintro e w4 ⟨rfl, h4⟩
      have H4 := Lib.hid h4
      clear h4 HF r0 r1
      have dw4 := cell_below H4.out.2.2.2.2.2 dw
      clear dw
      obtain ⟨⟨r0, r1⟩, s0, s1⟩ := H4.out.cells
      obtain ⟨fr, fs⟩ := H4.out.fr
      by_cases hr0 : leftF n R = 0
      · have hd : (leftF n R != 0) = false := by rw [hr0]; rfl
        have HR0 := Lib.hid hr0
        clear hr0
        cases hwh : l[i] with
        | true =>
          rw [hwh] at dw4
          clear hwh
          go_wp2_with fail
          refine (four_takeP_no H4.out (.inr HR0.out)).mono ?_
          rintro e w5 ⟨rfl, h5⟩
          have HF2 := Lib.hid h5
          clear h5 H4 dw4 r0 r1 s0 s1 fr fs
          have hst := HF2.out.drew
          have hB1 : -1 ≤ leftF n R := leftF_ge n R HKN.out
          have hB2 : -1 ≤ leftF m S := leftF_ge m S HKS.out
          go_wp2_with fail
          go_region_held3 (fun w' => (w'.cell? ⟨r, 0, none⟩ = some (.int .i64 n) ∧ w'.cell? ⟨r, 1, none⟩ = some (.int .i64 R)) ∧ w'.cell? ⟨s, 0, none⟩ = some (.int .i64 m) ∧ w'.cell? ⟨s, 1, none⟩ = some (.int .i64 S)) (first | exact hst.cells) (first
            | (go_at_call 17; refine (four_live hst).mono ?_; rintro e2 w' ⟨rfl, hst⟩)
            | (go_at_call 20; first | ((with_reducible refine (four_leftB hst).mono ?_); rintro e2 w' ⟨rfl, hst⟩) | ((with_reducible refine (four_leftP hst hB2 hB1).mono ?_); rintro e2 w' ⟨rfl, hst⟩))
            | (go_at_call 21; first | ((with_reducible refine (four_spentB hst).mono ?_); rintro e2 w' ⟨rfl, hst⟩) | ((with_reducible refine (four_spentP hst).mono ?_); rintro e2 w' ⟨rfl, hst⟩))
            | (go_at_call 18; first | ((with_reducible refine (four_refR hst (by omega) HKN.out HNB.out.2).mono ?_); rintro e2 w' ⟨rfl, hst⟩) | ((with_reducible refine (four_refS hst (by omega) HKS.out HMB.out.2).mono ?_); rintro e2 w' ⟨rfl, hst⟩))
            | (go_at_call 30; refine (four_less hst _ _).mono ?_; rintro e2 w' ⟨rfl, hst⟩))
          have HST := Lib.hid hst
          clear hst HF2
          go_wp2
          go_roundw
          case rel => exact ⟨i + 1, R, S, by omega, by omega, by omega, by go_num, HKN, HKS, HST⟩
          case measure => simp [intOf]; omega
        | false =>
          rw [hwh] at dw4
          clear hwh
          go_wp2_with fail
          refine (four_takeB_no H4.out HR0.out).mono ?_
          rintro e w5 ⟨rfl, h5⟩
          have HF2 := Lib.hid h5
          clear h5 H4 dw4 r0 r1 s0 s1 fr fs
          have hst := HF2.out.drew
          have hB1 : -1 ≤ leftF n R := leftF_ge n R HKN.out
          have hB2 : -1 ≤ leftF m S := leftF_ge m S HKS.out
          go_wp2_with fail
          go_region_held3 (fun w' => (w'.cell? ⟨r, 0, none⟩ = some (.int .i64 n) ∧ w'.cell? ⟨r, 1, none⟩ = some (.int .i64 R)) ∧ w'.cell? ⟨s, 0, none⟩ = some (.int .i64 m) ∧ w'.cell? ⟨s, 1, none⟩ = some (.int .i64 S)) (first | exact hst.cells) (first
            | (go_at_call 17; refine (four_live hst).mono ?_; rintro e2 w' ⟨rfl, hst⟩)
            | (go_at_call 20; first | ((with_reducible refine (four_leftB hst).mono ?_); rintro e2 w' ⟨rfl, hst⟩) | ((with_reducible refine (four_leftP hst hB2 hB1).mono ?_); rintro e2 w' ⟨rfl, hst⟩))
            | (go_at_call 21; first | ((with_reducible refine (four_spentB hst).mono ?_); rintro e2 w' ⟨rfl, hst⟩) | ((with_reducible refine (four_spentP hst).mono ?_); rintro e2 w' ⟨rfl, hst⟩))
            | (go_at_call 18; first | ((with_reducible refine (four_refR hst (by omega) HKN.out HNB.out.2).mono ?_); rintro e2 w' ⟨rfl, hst⟩) | ((with_reducible refine (four_refS hst (by omega) HKS.out HMB.out.2).mono ?_); rintro e2 w' ⟨rfl, hst⟩))
            | (go_at_call 30; refine (four_less hst _ _).mono ?_; rintro e2 w' ⟨rfl, hst⟩))
          have HST := Lib.hid hst
          clear hst HF2
          go_wp2
          go_roundw
          case rel => exact ⟨i + 1, R, S, by omega, by omega, by omega, by go_num, HKN, HKS, HST⟩
          case measure => simp [intOf]; omega
      · have hd : (leftF n R != 0) = true := by simpa using hr0
        have HR0 := Lib.hid hr0
        clear hr0
        obtain ⟨R', HR'⟩ : ∃ k : Nat, Hid (k = R + 1) := ⟨_, Lib.hid rfl⟩
        have HRL : Hid (decB (leftF n R) = leftF n R') := Lib.hid (by rw [HR'.out]; exact (leftF_step n R HNB.out.1 HKN.out HR0.out).1)
        have HKN' : Hid (0 ≤ n → (R' : Int) ≤ n) := Lib.hid (by rw [HR'.out]; exact (leftF_step n R HNB.out.1 HKN.out HR0.out).2)
        have hR' : R' ≤ i + 1 := by have := HR'.out; omega
        cases hwh : l[i] with
        | true =>
          rw [hwh] at dw4
          clear hwh
          go_wp2_with fail
          refine (four_refS H4.out (by omega) HKS.out HMB.out.2).mono ?_
          rintro e w5 ⟨rfl, h5⟩
          have H5 := Lib.hid h5
          clear h5 H4 dw4 r0 r1 s0 s1 fr fs
          by_cases hs0 : leftF m S = 0
          · have hd2 : (leftF m S != 0) = false := by rw [hs0]; rfl
            have HS0 := Lib.hid hs0
            clear hs0
            go_wp2_with fail
            refine (four_takeP_no H5.out (.inl HS0.out)).mono ?_
            rintro e w6 ⟨rfl, h6⟩
            have HF2 := Lib.hid h6
            clear h6 H5
            have hst := HF2.out.drew
            have hB1 : -1 ≤ leftF n R := leftF_ge n R HKN.out
            have hB2 : -1 ≤ leftF m S := leftF_ge m S HKS.out
            go_wp2_with fail
            go_region_held3 (fun w' => (w'.cell? ⟨r, 0, none⟩ = some (.int .i64 n) ∧ w'.cell? ⟨r, 1, none⟩ = some (.int .i64 R)) ∧ w'.cell? ⟨s, 0, none⟩ = some (.int .i64 m) ∧ w'.cell? ⟨s, 1, none⟩ = some (.int .i64 S)) (first | exact hst.cells) (first
              | (go_at_call 17; refine (four_live hst).mono ?_; rintro e2 w' ⟨rfl, hst⟩)
              | (go_at_call 20; first | ((with_reducible refine (four_leftB hst).mono ?_); rintro e2 w' ⟨rfl, hst⟩) | ((with_reducible refine (four_leftP hst hB2 hB1).mono ?_); rintro e2 w' ⟨rfl, hst⟩))
              | (go_at_call 21; first | ((with_reducible refine (four_spentB hst).mono ?_); rintro e2 w' ⟨rfl, hst⟩) | ((with_reducible refine (four_spentP hst).mono ?_); rintro e2 w' ⟨rfl, hst⟩))
              | (go_at_call 18; first | ((with_reducible refine (four_refR hst (by omega) HKN.out HNB.out.2).mono ?_); rintro e2 w' ⟨rfl, hst⟩) | ((with_reducible refine (four_refS hst (by omega) HKS.out HMB.out.2).mono ?_); rintro e2 w' ⟨rfl, hst⟩))
              | (go_at_call 30; refine (four_less hst _ _).mono ?_; rintro e2 w' ⟨rfl, hst⟩))
            have HST := Lib.hid hst
            clear hst HF2
            go_wp2
            go_roundw
            case rel => exact ⟨i + 1, R, S, by omega, by omega, by omega, by go_num, HKN, HKS, HST⟩
            case measure => simp [intOf]; omega
          · have hd2 : (leftF m S != 0) = true := by simpa using hs0
            have HS0 := Lib.hid hs0
            clear hs0
            obtain ⟨S', HS'⟩ : ∃ k : Nat, Hid (k = S + 1) := ⟨_, Lib.hid rfl⟩
            have HSL : Hid (decB (leftF m S) = leftF m S') := Lib.hid (by rw [HS'.out]; exact (leftF_step m S HMB.out.1 HKS.out HS0.out).1)
            have HKS' : Hid (0 ≤ m → (S' : Int) ≤ m) := Lib.hid (by rw [HS'.out]; exact (leftF_step m S HMB.out.1 HKS.out HS0.out).2)
            have hS' : S' ≤ i + 1 := by have := HS'.out; omega
            have HT : Hid (∀ W, Four w b p r s (leftF n R) R (leftF m S) S n R m S W → Calls Try.prog 19 #[.pointer (some ⟨p, 0, none⟩)] W fun e w' => e = .returned (.bool true) ∧ Four w b p r s (leftF n R') R' (leftF m S') S' n R m S w') := Lib.hid fun W h => by
              have := four_takeP h HS0.out HR0.out (by omega) (by omega) HRle.out HSle.out
              rw [HRL.out, HSL.out, ← HR'.out, ← HS'.out] at this
              exact this
            go_wp2_with fail
            refine (HT.out _ H5.out).mono ?_
            rintro e w6 ⟨rfl, h6⟩
            obtain ⟨⟨r0, r1⟩, s0, s1⟩ := h6.cells
            obtain ⟨fr, fs⟩ := h6.fr
            have hne : s ≠ r := by have := h6.2.2.2.2.1; omega
            have HF2 : Hid (Four w b p r s (leftF n R') R' (leftF m S') S' n R' m S' ((w6.setCell ⟨s, 1, none⟩ (.int .i64 ((S : Int) + 1))).setCell ⟨r, 1, none⟩ (.int .i64 ((R : Int) + 1)))) := by
              have := h6.moreS.moreR
              rw [← HR'.out, ← HS'.out] at this
              exact Lib.hid this
            clear h6 H5 HT
            go_wp2_with fail
            clear r0 r1 s0 s1 fr fs
            have hst := HF2.out.drew
            have hB1 : -1 ≤ leftF n R' := leftF_ge n R' HKN'.out
            have hB2 : -1 ≤ leftF m S' := leftF_ge m S' HKS'.out
            go_wp2_with fail
            go_region_held3 (fun w' => (w'.cell? ⟨r, 0, none⟩ = some (.int .i64 n) ∧ w'.cell? ⟨r, 1, none⟩ = some (.int .i64 R')) ∧ w'.cell? ⟨s, 0, none⟩ = some (.int .i64 m) ∧ w'.cell? ⟨s, 1, none⟩ = some (.int .i64 S')) (first | exact hst.cells) (first
              | (go_at_call 17; refine (four_live hst).mono ?_; rintro e2 w' ⟨rfl, hst⟩)
              | (go_at_call 20; first | ((with_reducible refine (four_leftB hst).mono ?_); rintro e2 w' ⟨rfl, hst⟩) | ((with_reducible refine (four_leftP hst hB2 hB1).mono ?_); rintro e2 w' ⟨rfl, hst⟩))
              | (go_at_call 21; first | ((with_reducible refine (four_spentB hst).mono ?_); rintro e2 w' ⟨rfl, hst⟩) | ((with_reducible refine (four_spentP hst).mono ?_); rintro e2 w' ⟨rfl, hst⟩))
              | (go_at_call 18; first | ((with_reducible refine (four_refR hst (by omega) HKN'.out HNB.out.2).mono ?_); rintro e2 w' ⟨rfl, hst⟩) | ((with_reducible refine (four_refS hst (by omega) HKS'.out HMB.out.2).mono ?_); rintro e2 w' ⟨rfl, hst⟩))
              | (go_at_call 30; refine (four_less hst _ _).mono ?_; rintro e2 w' ⟨rfl, hst⟩))
            have HST := Lib.hid hst
            clear hst HF2
            go_wp2
            go_roundw
            case rel => exact ⟨i + 1, R', S', by omega, by omega, by omega, by go_num, HKN', HKS', HST⟩
            case measure => simp [intOf]; omega
        | false =>
          rw [hwh] at dw4
          clear hwh
          have HT : Hid (∀ W, Four w b p r s (leftF n R) R (leftF m S) S n R m S W → Calls Try.prog 19 #[.pointer (some ⟨b, 0, none⟩)] W fun e w' => e = .returned (.bool true) ∧ Four w b p r s (leftF n R') R' (leftF m S) S n R m S w') := Lib.hid fun W h => by
            have := four_takeB h HR0.out (by omega) HRle.out
            rw [HRL.out, ← HR'.out] at this
            exact this
          go_wp2_with fail
          refine (HT.out _ H4.out).mono ?_
          rintro e w6 ⟨rfl, h6⟩
          clear r0 r1 s0 s1 fr fs dw4
          obtain ⟨⟨r0, r1⟩, s0, s1⟩ := h6.cells
          obtain ⟨fr, fs⟩ := h6.fr
          have HF2 : Hid (Four w b p r s (leftF n R') R' (leftF m S) S n R' m S (w6.setCell ⟨r, 1, none⟩ (.int .i64 ((R : Int) + 1)))) := by
            have := h6.moreR
            rw [← HR'.out] at this
            exact Lib.hid this
          clear h6 H4 HT
          go_wp2_with fail
          clear r0 r1 s0 s1 fr fs
          have hst := HF2.out.drew
          have hB1 : -1 ≤ leftF n R' := leftF_ge n R' HKN'.out
          have hB2 : -1 ≤ leftF m S := leftF_ge m S HKS.out
          go_wp2_with fail
          go_region_held3 (fun w' => (w'.cell? ⟨r, 0, none⟩ = some (.int .i64 n) ∧ w'.cell? ⟨r, 1, none⟩ = some (.int .i64 R')) ∧ w'.cell? ⟨s, 0, none⟩ = some (.int .i64 m) ∧ w'.cell? ⟨s, 1, none⟩ = some (.int .i64 S)) (first | exact hst.cells) (first
            | (go_at_call 17; refine (four_live hst).mono ?_; rintro e2 w' ⟨rfl, hst⟩)
            | (go_at_call 20; first | ((with_reducible refine (four_leftB hst).mono ?_); rintro e2 w' ⟨rfl, hst⟩) | ((with_reducible refine (four_leftP hst hB2 hB1).mono ?_); rintro e2 w' ⟨rfl, hst⟩))
            | (go_at_call 21; first | ((with_reducible refine (four_spentB hst).mono ?_); rintro e2 w' ⟨rfl, hst⟩) | ((with_reducible refine (four_spentP hst).mono ?_); rintro e2 w' ⟨rfl, hst⟩))
            | (go_at_call 18; first | ((with_reducible refine (four_refR hst (by omega) HKN'.out HNB.out.2).mono ?_); rintro e2 w' ⟨rfl, hst⟩) | ((with_reducible refine (four_refS hst (by omega) HKS.out HMB.out.2).mono ?_); rintro e2 w' ⟨rfl, hst⟩))
            | (go_at_call 30; refine (four_less hst _ _).mono ?_; rintro e2 w' ⟨rfl, hst⟩))
          have HST := Lib.hid hst
          clear hst HF2
          go_wp2
          go_roundw
          case rel => exact ⟨i + 1, R', S, by omega, by omega, by omega, by go_num, HKN', HKS, HST⟩
          case measure => simp [intOf]; omega
    · have hx : ¬ i < l.length ∨ i = 100 := by omega
      clear hlt
      rcases hx with hx | hx
      · 
        have hst := HF.out.drew
        have hB1 : -1 ≤ leftF n R := leftF_ge n R HKN.out
        have hB2 : -1 ≤ leftF m S := leftF_ge m S HKS.out
        go_wp2_with fail
        go_region_held3 (fun w' => (w'.cell? ⟨r, 0, none⟩ = some (.int .i64 n) ∧ w'.cell? ⟨r, 1, none⟩ = some (.int .i64 R)) ∧ w'.cell? ⟨s, 0, none⟩ = some (.int .i64 m) ∧ w'.cell? ⟨s, 1, none⟩ = some (.int .i64 S)) (first | exact hst.cells) (first
          | (go_at_call 17; refine (four_live hst).mono ?_; rintro e2 w' ⟨rfl, hst⟩)
          | (go_at_call 20; first | ((with_reducible refine (four_leftB hst).mono ?_); rintro e2 w' ⟨rfl, hst⟩) | ((with_reducible refine (four_leftP hst hB2 hB1).mono ?_); rintro e2 w' ⟨rfl, hst⟩))
          | (go_at_call 21; first | ((with_reducible refine (four_spentB hst).mono ?_); rintro e2 w' ⟨rfl, hst⟩) | ((with_reducible refine (four_spentP hst).mono ?_); rintro e2 w' ⟨rfl, hst⟩))
          | (go_at_call 18; first | ((with_reducible refine (four_refR hst (by omega) HKN.out HNB.out.2).mono ?_); rintro e2 w' ⟨rfl, hst⟩) | ((with_reducible refine (four_refS hst (by omega) HKS.out HMB.out.2).mono ?_); rintro e2 w' ⟨rfl, hst⟩))
          | (go_at_call 30; refine (four_less hst _ _).mono ?_; rintro e2 w' ⟨rfl, hst⟩))
        have HST := Lib.hid hst
        clear hst HF
        go_wp2
        go_ret
        exact ⟨rfl, HST.out.2.2.2.2.2⟩
      · subst hx
        by_cases hx : 100 < l.length
        all_goals (
          have hst := HF.out.drew
          have hB1 : -1 ≤ leftF n R := leftF_ge n R HKN.out
          have hB2 : -1 ≤ leftF m S := leftF_ge m S HKS.out
          go_wp2_with fail
          go_region_held3 (fun w' => (w'.cell? ⟨r, 0, none⟩ = some (.int .i64 n) ∧ w'.cell? ⟨r, 1, none⟩ = some (.int .i64 R)) ∧ w'.cell? ⟨s, 0, none⟩ = some (.int .i64 m) ∧ w'.cell? ⟨s, 1, none⟩ = some (.int .i64 S)) (first | exact hst.cells) (first
            | (go_at_call 17; refine (four_live hst).mono ?_; rintro e2 w' ⟨rfl, hst⟩)
            | (go_at_call 20; first | ((with_reducible refine (four_leftB hst).mono ?_); rintro e2 w' ⟨rfl, hst⟩) | ((with_reducible refine (four_leftP hst hB2 hB1).mono ?_); rintro e2 w' ⟨rfl, hst⟩))
            | (go_at_call 21; first | ((with_reducible refine (four_spentB hst).mono ?_); rintro e2 w' ⟨rfl, hst⟩) | ((with_reducible refine (four_spentP hst).mono ?_); rintro e2 w' ⟨rfl, hst⟩))
            | (go_at_call 18; first | ((with_reducible refine (four_refR hst (by omega) HKN.out HNB.out.2).mono ?_); rintro e2 w' ⟨rfl, hst⟩) | ((with_reducible refine (four_refS hst (by omega) HKS.out HMB.out.2).mono ?_); rintro e2 w' ⟨rfl, hst⟩))
            | (go_at_call 30; refine (four_less hst _ _).mono ?_; rintro e2 w' ⟨rfl, hst⟩))
          have HST := Lib.hid hst
          clear hst HF
          go_wp2
          go_ret
          exact ⟨rfl, HST.out.2.2.2.2.2⟩)
end Go.Proofs.Ytlndlcdamimbdaa
