/- The walk of the law BinReads. -/
import Derived.Test.YtlndlcdamimbdaaBinLive
import Derived.Test.YtlndlcdamimbdaaRefNumW
import Derived.Test.YtlndlcdamimbdaaRefKeyR
import Derived.Test.YtlndlcdamimbdaaOpenC
import Derived.Deep.Slices
import Derived.Test.YtlndlcdamimbdaaStrong
namespace Go.Proofs.Ytlndlcdamimbdaa
open Go.ChangeShapes Go.WideShapes Go.ChangeAt Go.RowKit

/-- A slice of deeds: a kind and a number each. -/
def Deeds (w : World) (A : Option Addr) (l : List (Int × Int)) : Prop :=
  l.length ≤ 4611686018427387903 ∧ ∀ i, (h : i < l.length) → ∃ ad, A = some ad ∧ w.cell? (ad.add (i * 2)) = some (.int .i64 l[i].1) ∧ w.cell? ⟨(ad.add (i * 2)).block, (ad.add (i * 2)).off + 1, none⟩ = some (.int .i64 l[i].2)
theorem Deeds.below {w w1 : World} {A : Option Addr} {l : List (Int × Int)} (h : Deeds w A l) (hb : Below w.heap.size w w1) : Deeds w1 A l :=
  ⟨h.1, fun i hi => by
    obtain ⟨ad, e, h1, h2⟩ := h.2 i hi
    exact ⟨ad, e, cell_below hb h1, cell_below hb h2⟩⟩
set_option linter.unusedSimpArgs false in
theorem shape66 {H : Type} {enc : TypeId × Value → H} {w : World} {base fuel : Nat} {sp : Nat → Bool} {held : Bool} {cs : List Value} {x : DataW H × List MemPlace} (h : DataW.trod enc Try.prog w base sp held fuel 66 cs = some x) :
    ∃ (x0 : Int) (x1 : Int), cs = [.int .i64 x0, .int .i64 x1] ∧ (Lit.int .i64 x0).wf = true ∧ (Lit.int .i64 x1).wf = true := by
  have hc3 : Try.prog.cellsOf 3 = 1 := by kernel_rfl
  have hc66 : Try.prog.cellsOf 66 = 2 := by kernel_rfl
  obtain ⟨ys, m, _, rfl, hn, hl, hf⟩ := DataW.trod_struct Try.underlying66 h
  rw [hc66] at hn
  match cs, hn, ys, hl, hf with
  | [c0, c1], _, [y_0, y_1], _, hf =>
  have h_0 := hf 0 _ rfl
  have h_1 := hf 1 _ rfl
  simp [hc3, hc66] at h_0 h_1
  obtain ⟨x0, e0, rfl, s0⟩ := DataW.trod_int Try.underlying3 h_0
  obtain ⟨x1, e1, rfl, s1⟩ := DataW.trod_int Try.underlying3 h_1
  simp at e0 e1
  subst e0 e1
  exact ⟨x0, x1, rfl, s0, s1⟩

theorem add_one (a : Addr) : a.add 1 = ⟨a.block, a.off + 1, none⟩ := by unfold Addr.add; simp
/-- A slice of deeds that came in. -/
theorem open61 {H : Type} {enc : TypeId × Value → H} {w : World} {base : Nat} {sp : Nat → Bool} {held : Bool} {r : Reach} {b0 : Nat} {v : Value} {d : DataW H} {ps : List MemPlace} (hval : Value.okWide Try.prog w r b0 61 v) (hd : DataW.Trod enc Try.prog w base sp held 61 v d ps)
    {ts : List TypeId} {ds : List (DataW H)} {j : Nat} (hsz : (DataW.weightsEach Try.prog ts ds).all (· ≤ reachBytes) = true) (ht : ts[j]? = some 61) (hdj : ds[j]? = some d) :
    ∃ (A : Option Addr) (cap : Nat) (l : List (Int × Int)), v = .slice A l.length cap ∧ Deeds w A l := by
  obtain ⟨a, len, cap, rfl⟩ := okWide_slice Try.underlying61 hval
  obtain ⟨fuel, hf⟩ := hd
  have hc66 : Try.prog.cellsOf 66 = 2 := by kernel_rfl
  have hb66 : Try.prog.bytesOf 66 = 16 := by kernel_rfl
  rcases Go.Deep.open_slice Try.underlying61 hf with ⟨hcs, _⟩ | ⟨x, len', cap', m, n, D, Pl, hcs, hb, hl, hm, hmm, hx, hi⟩
  · simp [Value.cells] at hcs
    obtain ⟨rfl, rfl, rfl⟩ := hcs
    exact ⟨none, 0, [], rfl, ⟨by simp, fun i h => absurd h (Nat.not_lt_zero i)⟩⟩
  · simp [Value.cells] at hcs
    obtain ⟨rfl, rfl, rfl⟩ := hcs
    obtain ⟨hxd, _⟩ := Prod.mk.inj hx
    subst hxd
    have hz := sized_slice hsz ht hdj Try.underlying61
    rw [hb66] at hz
    have hlm : len ≤ m := by rw [hmm]; split <;> omega
    have hlen : len ≤ 4611686018427387903 := by
      simp only [List.length_map, List.length_range] at hz
      have : reachBytes ≤ 140737488355328 := by decide
      omega
    have each : ∀ i, ∃ p : Int × Int, i < len → (w.cell? (x.add (i * 2)) = some (.int .i64 p.1) ∧ w.cell? ⟨(x.add (i * 2)).block, (x.add (i * 2)).off + 1, none⟩ = some (.int .i64 p.2)) := by
      intro i
      by_cases h : i < len
      · obtain ⟨cs', hcs', htr⟩ := hi i (by omega)
        rw [hc66] at hcs'
        obtain ⟨x0, x1, rfl, s0, s1⟩ := shape66 htr
        have c0 := (World.cells?_some hcs').2.2 0 (by omega)
        have c1 := (World.cells?_some hcs').2.2 1 (by omega)
        refine ⟨(x0, x1), fun _ => ⟨?_, ?_⟩⟩
        · rw [show x.add (i * 2) = (x.add (i * 2)).add 0 from by simp [Addr.add], c0]; rfl
        · rw [← add_one, c1]; rfl
      · exact ⟨(0, 0), fun h' => absurd h' h⟩
    obtain ⟨f, hf⟩ := Classical.axiomOfChoice each
    refine ⟨some x, cap, (List.range len).map f, by simp, ⟨by simpa using hlen, fun i h => ⟨x, rfl, ?_⟩⟩⟩
    have h' : i < len := by simpa using h
    have := hf i h'
    simp only [List.getElem_map, List.getElem_range]
    exact this

theorem Row.grewO {w w1 : World} {kd : IntKind} {A : Option Addr} {l : List Int} {r : Nat} (hg : w.grownBy w1 (some r)) (hne : 0 < l.length → ∀ ad, A = some ad → ad.block ≠ r) (h : Row w kd A l) : Row w1 kd A l := by
  rcases A with _ | ad
  · obtain rfl := h.none_nil
    exact Row.nil _ _
  · exact Row.grew' hg (fun hl => hne hl ad rfl) h
/-- The two readers; nothing that stood before has turned. -/
def Both (w0 : World) (b s : Nat) (l : List Int) (e : Int) (w : World) : Prop := Rd 80 [s] w b l e ∧ Rd 64 [b] w s l e ∧ Below w0.heap.size w0 w
theorem Both.drew {w0 : World} {b s : Nat} {l : List Int} {e : Int} {w : World} (h : Both w0 b s l e w) : Both w0 b s l e w.drew := ⟨h.1, h.2.1, h.2.2.drew⟩
/-- One reader has gone on, the other one not yet. -/
def Half (w0 : World) (b s : Nat) (l : List Int) (e : Int) (l' : List Int) (e' : Int) (w : World) : Prop := Rd 80 [s] w b l' e' ∧ Rd 64 [b] w s l e ∧ Below w0.heap.size w0 w
theorem Both.half {w0 : World} {b s : Nat} {l : List Int} {e : Int} {w w1 : World} (h : Both w0 b s l e w) {l' : List Int} {e' : Int} (hb : w0.heap.size ≤ b) (hne : s ≠ b) (h1 : Rd 80 [s] w1 b l' e') (hg : w.grownBy w1 (some b)) : Half w0 b s l e l' e' w1 :=
  ⟨h1, h.2.1.grew hg (by simp) hne, Below.grown h.2.2 hg h.2.2.size (by intro r hr; injection hr with hr; omega)⟩
theorem Half.both {w0 : World} {b s : Nat} {l : List Int} {e : Int} {w w1 : World} {l' : List Int} {e' : Int} (h : Half w0 b s l e l' e' w) (hs : w0.heap.size ≤ s) (hne : s ≠ b) (h1 : Rd 64 [b] w1 s l' e') (hg : w.grownBy w1 (some s)) : Both w0 b s l' e' w1 :=
  ⟨h.1.grew hg (by simp) (fun e => hne e.symm), h1, Below.grown h.2.2 hg h.2.2.size (by intro r hr; injection hr with hr; omega)⟩


set_option linter.unusedSimpArgs false in
set_option maxRecDepth 100000 in
set_option maxHeartbeats 6400000 in
theorem binReads_main (A D : Option Addr) (c c' : Nat) (l : List Int) (ds : List (Int × Int)) (w : World) (hr : Row w .u8 A l) (hb : Byt l) (hnil : A = none → c = 0) (hd : Deeds w D ds) (hl : l.length ≤ 400) : Calls Try.prog 10 #[.slice A l.length c, .slice D ds.length c'] w fun e w' => e = .returned (.bool true) ∧ Below w.heap.size w w' := by
  have h8 : decide ((400 : Int) < l.length) = false := by simp; omega
  have hdl := hd.1
  have HD := Lib.hid hd
  have HR := Lib.hid hr
  have HN := Lib.hid hnil
  have HBY := Lib.hid hb
  have HNR : Hid (∀ w, Row w .u8 A l → Calls Try.prog 38 #[.slice A l.length c] w fun e w' => ∃ b, w.heap.size ≤ b ∧ e = .returned (.pointer (some ⟨b, 0, none⟩)) ∧ Rd 80 [] w' b l 0 ∧ Below w.heap.size w w') := fun w h => newReader_any (c := c) h hb hnil (by omega)
  clear hd hr hb hnil
  go_enter Try.func10, Try.ntmps10
  go_wp2_with fail
  refine (HNR.out _ HR.out).mono ?_
  rintro e w1 ⟨b, hbb, rfl, h1, hb1⟩
  have H1 := Lib.hid h1
  have B1 := Lib.hid hb1
  have HR1 := Lib.hid (HR.out.below hb1)
  have hs1 := hb1.size
  clear h1 hb1 HNR HR
  go_wp2_with (first
    | (at_builtin; refine append_bytes_any rfl (.tmp 15) (.tmp 16) rfl w1.heap.size w1.heap.size 0 0 l.length l.length [] l rfl rfl (by omega) rfl (own_none w1) (Nat.le_refl _) (by (try simp)) A c rfl (HR1.out.alloc _) HN.out (by omega) ?_; intro g cp w2 hown hg hgrow
       have HO := Lib.hid hown
       have BB2 := Lib.hid (Below.grown ((Below.refl _ w1).alloc (Nat.le_refl _) _) hgrow (by simp) (by intro r hr; simp at hr; omega))
       clear hown hgrow))
  have hblt := H1.out.lt
  have hs2 := BB2.out.size
  have HB0 : Hid (Both w b w2.heap.size l 0 (w2.alloc (.cells #[.slice (some ⟨g, 0, none⟩) l.length cp, .int .i64 0] 64))) := by
    refine Lib.hid ⟨Rd.after ((Below.refl _ w2).alloc (Nat.le_refl _) _) ((H1.out.after BB2.out).more w2.heap.size (Nat.le_refl _)), ?_, (below_via BB2.out B1.out).alloc (by omega) _⟩
    have hgl := HO.out.lt
    exact ⟨⟨g, 0, none⟩, cp, Blk.new _ _ _, HO.out.row.alloc _, HO.out.cap.1, HO.out.cap.2, by omega, HBY.out, fun _ => ⟨by show g ≠ _; omega, by intro x hx; simp only [List.mem_singleton] at hx; subst hx; show g ≠ _; omega⟩⟩
  obtain ⟨s, HS⟩ : ∃ s, Hid (w2.heap.size = s) := ⟨_, Lib.hid rfl⟩
  rw [HS.out] at HB0
  rw [HS.out]
  have hne : s ≠ b := by have := HS.out; omega
  have hsw : w.heap.size ≤ s := by have := HS.out; omega
  clear H1 B1 HR1 BB2 HO
  go_loopw [7] (fun v wr => ∃ (i : Nat) (l' : List Int) (e' : Int), i ≤ 40 ∧ v = .int .i64 i ∧ Hid (Both w b s l' e' wr)) (fun v _ => 40 - (intOf v).toNat)
  case atStart => exact ⟨0, l, 0, by omega, rfl, HB0⟩
  case round =>
    clear HB0 HS
    obtain ⟨i, l1, e1, hi, rfl, HB⟩ := hrel
    by_cases hlt : i < ds.length ∧ i < 40
    · obtain ⟨hlt1, hlt2⟩ := hlt
      obtain ⟨ad, e, dw0, dw1⟩ := HD.out.2 i hlt1
      subst e
      obtain ⟨kd, hkd⟩ : ∃ k, k = ds[i].1 := ⟨_, rfl⟩
      obtain ⟨n, hn⟩ : ∃ k, k = ds[i].2 := ⟨_, rfl⟩
      rw [← hkd] at dw0
      rw [← hn] at dw1
      clear hkd hn
      have d0 := cell_below HB.out.2.2 dw0
      have d1 := cell_below HB.out.2.2 dw1
      have DW1 := Lib.hid dw1
      clear dw0 dw1
      by_cases k0 : kd = 0
      · subst k0
        have hst := HB.out.drew
        go_wp2_with fail
        go_region_held3 (fun w' => w'.cell? ⟨(ad.add (i * 2)).block, (ad.add (i * 2)).off + 1, none⟩ = some (.int .i64 n)) (first | exact cell_below hst.2.2 DW1.out) (first
          | (go_at_call 41; refine (fixedR_any hst.1 n).mono ?_; rintro e2 w' ⟨rfl, hp, hg⟩; have hst := Both.half hst hbb hne hp hg; clear hp hg)
          | (go_at_call 44; refine (refFixedR_any hst.2.1 n).mono ?_; rintro e2 w' ⟨rfl, hp, hg⟩; have hst := Half.both hst hsw hne hp hg; clear hp hg))
        have HB2 := Lib.hid hst
        clear hst HB d0 d1
        have hBB := HB2.out
        obtain ⟨ad2, c2, hk2, _⟩ := hBB.2.1
        obtain ⟨s0, s1⟩ := hk2.two
        clear hk2
        have hst := hBB.drew
        clear hBB
        go_wp2_with fail
        go_region_held3 (fun w' => w'.cell? ⟨s, 0, none⟩ = some (.slice (some ad2) (fxS l1 e1 n).length c2) ∧ w'.cell? ⟨s, 1, none⟩ = some (.int .i64 (fxE l1 e1 n))) (first | exact ⟨s0, s1⟩) (first
          | (go_at_call 42; refine (left_any hst.1).mono ?_; rintro e2 w' ⟨rfl, rfl⟩)
          | (go_at_call 43; refine (err_any hst.1).mono ?_; rintro e2 w' ⟨rfl, rfl⟩))
        have HST := Lib.hid hst
        clear hst s0 s1 HB2
        go_wp2
        go_roundw
        case rel => exact ⟨i + 1, fxS l1 e1 n, fxE l1 e1 n, by omega, by go_num, HST⟩
        case measure => simp [intOf]; omega
      · have h0' : (kd == 0) = false := beq_eq_false_iff_ne.2 k0
        clear k0
        by_cases k1 : kd = 1
        · subst k1
          go_wp2_with fail
          refine (num_all HB.out.1).mono ?_
          rintro e2 w3 ⟨rfl, hp, hg⟩
          have HB1 := Lib.hid (Both.half HB.out hbb hne hp hg)
          clear hp hg HB d0 d1
          go_wp2_with fail
          refine (refNumR_any HB1.out.2.1).mono ?_
          rintro e2 w4 ⟨rfl, hp, hg⟩
          have HB2 := Lib.hid (Half.both HB1.out hsw hne hp hg)
          clear hp hg HB1
          have hBB := HB2.out
          obtain ⟨ad2, c2, hk2, _⟩ := hBB.2.1
          obtain ⟨s0, s1⟩ := hk2.two
          clear hk2
          have hst := hBB.drew
          clear hBB
          go_wp2_with fail
          go_region_held3 (fun w' => w'.cell? ⟨s, 0, none⟩ = some (.slice (some ad2) (numS l1 e1).length c2) ∧ w'.cell? ⟨s, 1, none⟩ = some (.int .i64 (numE l1 e1))) (first | exact ⟨s0, s1⟩) (first
            | (go_at_call 42; refine (left_any hst.1).mono ?_; rintro e2 w' ⟨rfl, rfl⟩)
            | (go_at_call 43; refine (err_any hst.1).mono ?_; rintro e2 w' ⟨rfl, rfl⟩))
          have HST := Lib.hid hst
          clear hst s0 s1 HB2
          go_wp2
          go_roundw
          case rel => exact ⟨i + 1, numS l1 e1, numE l1 e1, by omega, by go_num, HST⟩
          case measure => simp [intOf]; omega
        · have h1' : (kd == 1) = false := beq_eq_false_iff_ne.2 k1
          clear k1
          by_cases k2 : kd = 2
          · subst k2
            go_wp2_with fail
            refine (keyR_any HB.out.1).mono ?_
            rintro e2 w3 ⟨rfl, hp, hg⟩
            have HB1 := Lib.hid (Both.half HB.out hbb hne hp hg)
            clear hp hg HB d0 d1
            go_wp2_with fail
            refine (refKeyR_any HB1.out.2.1).mono ?_
            rintro e2 w4 ⟨rfl, hp, hg⟩
            have HB2 := Lib.hid (Half.both HB1.out hsw hne hp hg)
            clear hp hg HB1
            have hBB := HB2.out
            obtain ⟨ad2, c2, hk2, _⟩ := hBB.2.1
            obtain ⟨s0, s1⟩ := hk2.two
            clear hk2
            have hst := hBB.drew
            clear hBB
            go_wp2_with fail
            go_region_held3 (fun w' => w'.cell? ⟨s, 0, none⟩ = some (.slice (some ad2) (tkS l1 e1 9).length c2) ∧ w'.cell? ⟨s, 1, none⟩ = some (.int .i64 (tkE l1 e1 9))) (first | exact ⟨s0, s1⟩) (first
              | (go_at_call 42; refine (left_any hst.1).mono ?_; rintro e2 w' ⟨rfl, rfl⟩)
              | (go_at_call 43; refine (err_any hst.1).mono ?_; rintro e2 w' ⟨rfl, rfl⟩))
            have HST := Lib.hid hst
            clear hst s0 s1 HB2
            go_wp2
            go_roundw
            case rel => exact ⟨i + 1, tkS l1 e1 9, tkE l1 e1 9, by omega, by go_num, HST⟩
            case measure => simp [intOf]; omega
          · have h2' : (kd == 2) = false := beq_eq_false_iff_ne.2 k2
            clear k2
            by_cases k3 : kd = 3
            · subst k3
              have hst := HB.out.drew
              go_wp2_with fail
              refine wp_region_held_drew (S := (fun w' => w'.cell? ⟨(ad.add (i * 2)).block, (ad.add (i * 2)).off + 1, none⟩ = some (.int .i64 n))) (by kernel_rfl) (cell_below hst.2.2 DW1.out) (fun hHeld => ?_)
              refine wpAnyH_take (i := 0) (v := ?_) rfl (by kernel_rfl) (by kernel_rfl) (by kernel_rfl) (fun _ _ _ h => h) (Or.inl ⟨by rfl, ?_⟩) (by assumption) ?_
              rotate_left
              · intro w hSw
                (try dsimp only at hSw)
                (go_simp <;> (try with_reducible rfl))
              try simp only [Act.put, List.getElem_toArray, List.getElem_cons_zero, List.getElem_cons_succ, List.setIfInBounds_toArray, List.set_cons_zero, List.set_cons_succ]
              refine wpAnyH_take (i := 1) (v := ?_) rfl (by kernel_rfl) (by kernel_rfl) (by kernel_rfl) (fun _ _ _ h => h) (Or.inl ⟨by rfl, ?_⟩) (by assumption) ?_
              rotate_left
              · intro w hSw
                (try dsimp only at hSw)
                (go_simp <;> (try with_reducible rfl))
              try simp only [Act.put, List.getElem_toArray, List.getElem_cons_zero, List.getElem_cons_succ, List.setIfInBounds_toArray, List.set_cons_zero, List.set_cons_succ]
              refine wpAnyH_take (i := 2) (v := ?_) rfl (by kernel_rfl) (by kernel_rfl) (by kernel_rfl) (fun _ _ _ h => h) (Or.inl ⟨by rfl, ?_⟩) (by assumption) ?_
              rotate_left
              · intro w hSw
                (try dsimp only at hSw)
                (go_simp <;> (try with_reducible rfl))
              try simp only [Act.put, List.getElem_toArray, List.getElem_cons_zero, List.getElem_cons_succ, List.setIfInBounds_toArray, List.set_cons_zero, List.set_cons_succ]
              refine wpAnyH_take (i := 3) (v := ?_) rfl (by kernel_rfl) (by kernel_rfl) (by kernel_rfl) (fun _ _ _ h => h) (Or.inl ⟨by rfl, ?_⟩) (by assumption) ?_
              rotate_left
              · intro w hSw
                (try dsimp only at hSw)
                (go_simp <;> (try with_reducible rfl))
              try simp only [Act.put, List.getElem_toArray, List.getElem_cons_zero, List.getElem_cons_succ, List.setIfInBounds_toArray, List.set_cons_zero, List.set_cons_succ]
              refine wpAnyH_take (i := 4) (v := ?_) rfl (by kernel_rfl) (by kernel_rfl) (by kernel_rfl) (fun _ _ _ h => h) (Or.inl ⟨by rfl, ?_⟩) (by assumption) ?_
              rotate_left
              · intro w hSw
                (try dsimp only at hSw)
                (go_simp <;> (try with_reducible rfl))
              try simp only [Act.put, List.getElem_toArray, List.getElem_cons_zero, List.getElem_cons_succ, List.setIfInBounds_toArray, List.set_cons_zero, List.set_cons_succ]
              refine wpAnyH_take (i := 5) (v := ?_) rfl (by kernel_rfl) (by kernel_rfl) (by kernel_rfl) (fun _ _ _ h => h) (Or.inl ⟨by rfl, ?_⟩) (by assumption) ?_
              rotate_left
              · intro w hSw
                (try dsimp only at hSw)
                (go_simp <;> (try with_reducible rfl))
              try simp only [Act.put, List.getElem_toArray, List.getElem_cons_zero, List.getElem_cons_succ, List.setIfInBounds_toArray, List.set_cons_zero, List.set_cons_succ]
              refine wpAnyH_take (i := 8) (v := ?_) rfl (by kernel_rfl) (by kernel_rfl) (by kernel_rfl) (fun _ _ _ h => h) (Or.inl ⟨by rfl, ?_⟩) (by assumption) ?_
              rotate_left
              · intro w hSw
                (try dsimp only at hSw)
                (go_simp <;> (try with_reducible rfl))
              try simp only [Act.put, List.getElem_toArray, List.getElem_cons_zero, List.getElem_cons_succ, List.setIfInBounds_toArray, List.set_cons_zero, List.set_cons_succ]
              refine wpAnyH_take (i := 9) (v := ?_) rfl (by kernel_rfl) (by kernel_rfl) (by kernel_rfl) (fun _ _ _ h => h) (Or.inl ⟨by rfl, ?_⟩) (by assumption) ?_
              rotate_left
              · intro w hSw
                (try dsimp only at hSw)
                (go_simp <;> (try with_reducible rfl))
              try simp only [Act.put, List.getElem_toArray, List.getElem_cons_zero, List.getElem_cons_succ, List.setIfInBounds_toArray, List.set_cons_zero, List.set_cons_succ]
              refine wpAnyH_take (i := 10) (v := ?_) rfl (by kernel_rfl) (by kernel_rfl) (by kernel_rfl) (fun _ _ _ h => h) (Or.inl ⟨by rfl, ?_⟩) (by assumption) ?_
              rotate_left
              · intro w hSw
                (try dsimp only at hSw)
                (go_simp <;> (try with_reducible rfl))
              try simp only [Act.put, List.getElem_toArray, List.getElem_cons_zero, List.getElem_cons_succ, List.setIfInBounds_toArray, List.set_cons_zero, List.set_cons_succ]
              refine wpAnyH_take (i := 11) (v := ?_) rfl (by kernel_rfl) (by kernel_rfl) (by kernel_rfl) (fun _ _ _ h => h) (Or.inl ⟨by rfl, ?_⟩) (by assumption) ?_
              rotate_left
              · intro w hSw
                (try dsimp only at hSw)
                (go_simp <;> (try with_reducible rfl))
              try simp only [Act.put, List.getElem_toArray, List.getElem_cons_zero, List.getElem_cons_succ, List.setIfInBounds_toArray, List.set_cons_zero, List.set_cons_succ]
              refine wpAnyH_take (i := 12) (v := ?_) rfl (by kernel_rfl) (by kernel_rfl) (by kernel_rfl) (fun _ _ _ h => h) (Or.inl ⟨by rfl, ?_⟩) (by assumption) ?_
              rotate_left
              · intro w hSw
                (try dsimp only at hSw)
                (go_simp <;> (try with_reducible rfl))
              try simp only [Act.put, List.getElem_toArray, List.getElem_cons_zero, List.getElem_cons_succ, List.setIfInBounds_toArray, List.set_cons_zero, List.set_cons_succ]
              refine wpAnyH_take (i := 13) (v := ?_) rfl (by kernel_rfl) (by kernel_rfl) (by kernel_rfl) (fun _ _ _ h => h) (Or.inl ⟨by rfl, ?_⟩) (by assumption) ?_
              rotate_left
              · intro w hSw
                (try dsimp only at hSw)
                (go_simp <;> (try with_reducible rfl))
              try simp only [Act.put, List.getElem_toArray, List.getElem_cons_zero, List.getElem_cons_succ, List.setIfInBounds_toArray, List.set_cons_zero, List.set_cons_succ]
              refine wpAnyH_ready (rs := [6]) (by kernel_rfl) (by simp) ?_
              refine AllReadyH.cons rfl (fun K hK => ?_) AllReadyH.nil
              go_simp
              have hsl := hst.2.1.lt
              refine (bytesR_any hst.1 n).mono ?_
              rintro e2 w' ⟨A1, c1, rfl, hr1, hk1, hp, hg⟩
              have hst := Both.half hst hbb hne hp hg
              clear hp hg
              try (go_wp2_with fail)
              refine hK.out _ _ (cell_below hst.2.2 DW1.out) (fun hHeld => ?_)
              clear hK K
              try simp only [Act.put, List.getElem_toArray, List.getElem_cons_zero, List.getElem_cons_succ, List.setIfInBounds_toArray, List.set_cons_zero, List.set_cons_succ]
              refine wpAnyH_strong (S' := (fun w' => (w'.cell? ⟨(ad.add (i * 2)).block, (ad.add (i * 2)).off + 1, none⟩ = some (.int .i64 n)) ∧ Row w' .u8 A1 (byV l1 e1 n))) (fun _ h => h.1) _ _ _ _ ?_
              have hHeld := (And.intro (cell_below hst.2.2 DW1.out) hr1)
              have hv1 : ∀ w', ((w'.cell? ⟨(ad.add (i * 2)).block, (ad.add (i * 2)).off + 1, none⟩ = some (.int .i64 n)) ∧ Row w' .u8 A1 (byV l1 e1 n)) → Sem.run Try.prog (convert 49 9 (.slice A1 (byV l1 e1 n).length c1)) w' = .ok (.string (strOfNums (byV l1 e1 n))) w' := fun w' h => h.2.string (c := c1) Try.underlying49 Try.underlying5 Try.underlying9
              refine wpAnyH_take (i := 7) (v := ?_) rfl (by kernel_rfl) (by kernel_rfl) (by kernel_rfl) (fun _ _ _ h => h) (Or.inl ⟨by rfl, ?_⟩) (by assumption) ?_
              rotate_left
              · intro w hSw
                (try dsimp only at hSw)
                (go_simp <;> (try with_reducible rfl))
              try simp only [Act.put, List.getElem_toArray, List.getElem_cons_zero, List.getElem_cons_succ, List.setIfInBounds_toArray, List.set_cons_zero, List.set_cons_succ]
              clear hv1
              refine wpAnyH_ready (rs := [14]) (by kernel_rfl) (by simp) ?_
              refine AllReadyH.cons rfl (fun K hK => ?_) AllReadyH.nil
              go_simp
              refine (refBytesR_any hst.2.1 n).mono ?_
              rintro e2 w' ⟨A2, c2, rfl, hr2, hk2, hp, hg⟩
              have hst := Half.both hst hsw hne hp hg
              have hr1 := Row.grewO hg (fun h ad e => by have := hk1 h ad e; omega) hr1
              clear hp hg
              try (go_wp2_with fail)
              refine hK.out _ _ (And.intro (cell_below hst.2.2 DW1.out) hr1) (fun hHeld => ?_)
              clear hK K
              try simp only [Act.put, List.getElem_toArray, List.getElem_cons_zero, List.getElem_cons_succ, List.setIfInBounds_toArray, List.set_cons_zero, List.set_cons_succ]
              refine wpAnyH_strong (S' := (fun w' => ((w'.cell? ⟨(ad.add (i * 2)).block, (ad.add (i * 2)).off + 1, none⟩ = some (.int .i64 n)) ∧ Row w' .u8 A1 (byV l1 e1 n)) ∧ Row w' .u8 A2 (byV l1 e1 n))) (fun _ h => h.1) _ _ _ _ ?_
              have hHeld := (And.intro (And.intro (cell_below hst.2.2 DW1.out) hr1) hr2)
              have hv2 : ∀ w', (((w'.cell? ⟨(ad.add (i * 2)).block, (ad.add (i * 2)).off + 1, none⟩ = some (.int .i64 n)) ∧ Row w' .u8 A1 (byV l1 e1 n)) ∧ Row w' .u8 A2 (byV l1 e1 n)) → Sem.run Try.prog (convert 49 9 (.slice A2 (byV l1 e1 n).length c2)) w' = .ok (.string (strOfNums (byV l1 e1 n))) w' := fun w' h => h.2.string (c := c2) Try.underlying49 Try.underlying5 Try.underlying9
              refine wpAnyH_take (i := 15) (v := ?_) rfl (by kernel_rfl) (by kernel_rfl) (by kernel_rfl) (fun _ _ _ h => h) (Or.inl ⟨by rfl, ?_⟩) (by assumption) ?_
              rotate_left
              · intro w hSw
                (try dsimp only at hSw)
                (go_simp <;> (try with_reducible rfl))
              try simp only [Act.put, List.getElem_toArray, List.getElem_cons_zero, List.getElem_cons_succ, List.setIfInBounds_toArray, List.set_cons_zero, List.set_cons_succ]
              refine wpAnyH_take (i := 16) (v := ?_) rfl (by kernel_rfl) (by kernel_rfl) (by kernel_rfl) (fun _ _ _ h => h) (Or.inl ⟨by rfl, ?_⟩) (by assumption) ?_
              rotate_left
              · intro w hSw
                (try dsimp only at hSw)
                (go_simp <;> (try with_reducible rfl))
              try simp only [Act.put, List.getElem_toArray, List.getElem_cons_zero, List.getElem_cons_succ, List.setIfInBounds_toArray, List.set_cons_zero, List.set_cons_succ]
              refine wpAnyH_take (i := 17) (v := ?_) rfl (by kernel_rfl) (by kernel_rfl) (by kernel_rfl) (fun _ _ _ h => h) (Or.inl ⟨by rfl, ?_⟩) (by assumption) ?_
              rotate_left
              · intro w hSw
                (try dsimp only at hSw)
                (go_simp <;> (try with_reducible rfl))
              try simp only [Act.put, List.getElem_toArray, List.getElem_cons_zero, List.getElem_cons_succ, List.setIfInBounds_toArray, List.set_cons_zero, List.set_cons_succ]
              refine wpAnyH_done (by kernel_rfl) ?_ _
              all_goals (
                have HB2 := Lib.hid hst
                clear hst HB d0 d1 hr1 hr2 hv2 hk1 hk2
                have hBB := HB2.out
                obtain ⟨ad2, c2, hk2, _⟩ := hBB.2.1
                obtain ⟨s0, s1⟩ := hk2.two
                clear hk2
                have hst := hBB.drew
                clear hBB
                go_wp2_with fail
                go_region_held3 (fun w' => w'.cell? ⟨s, 0, none⟩ = some (.slice (some ad2) (byS l1 e1 n).length c2) ∧ w'.cell? ⟨s, 1, none⟩ = some (.int .i64 (byE l1 e1 n))) (first | exact ⟨s0, s1⟩) (first
                  | (go_at_call 42; refine (left_any hst.1).mono ?_; rintro e2 w' ⟨rfl, rfl⟩)
                  | (go_at_call 43; refine (err_any hst.1).mono ?_; rintro e2 w' ⟨rfl, rfl⟩))
                have HST := Lib.hid hst
                clear hst s0 s1 HB2
                go_wp2
                go_roundw
                case rel => exact ⟨i + 1, byS l1 e1 n, byE l1 e1 n, by omega, by go_num, HST⟩
                case measure => simp [intOf]; omega)
            · have h3' : (kd == 3) = false := beq_eq_false_iff_ne.2 k3
              clear k3
              have HB2 := HB
              clear HB
              have hBB := HB2.out
              obtain ⟨ad2, c2, hk2, _⟩ := hBB.2.1
              obtain ⟨s0, s1⟩ := hk2.two
              clear hk2
              have hst := hBB.drew
              clear hBB
              go_wp2_with fail
              go_region_held3 (fun w' => w'.cell? ⟨s, 0, none⟩ = some (.slice (some ad2) (l1).length c2) ∧ w'.cell? ⟨s, 1, none⟩ = some (.int .i64 (e1))) (first | exact ⟨s0, s1⟩) (first
                | (go_at_call 42; refine (left_any hst.1).mono ?_; rintro e2 w' ⟨rfl, rfl⟩)
                | (go_at_call 43; refine (err_any hst.1).mono ?_; rintro e2 w' ⟨rfl, rfl⟩))
              have HST := Lib.hid hst
              clear hst s0 s1 HB2
              go_wp2
              go_roundw
              case rel => exact ⟨i + 1, l1, e1, by omega, by go_num, HST⟩
              case measure => simp [intOf]; omega
    · have hx : ds.length ≤ i ∨ i = 40 := by omega
      rcases hx with hx | hx
      · have hx' : ¬ i < ds.length := by omega
        clear hlt hx
        go_wp2_with fail
        refine (live03_any _).mono ?_
        rintro e2 w9 ⟨rfl, hb9⟩
        have HB9 := Lib.hid (below_via hb9 HB.out.2.2)
        clear hb9
        go_wp2
        go_ret
        exact ⟨rfl, HB9.out⟩
      · subst hx
        clear hlt
        by_cases hx' : 40 < ds.length
        all_goals
          go_wp2_with fail
          refine (live03_any _).mono ?_
          rintro e2 w9 ⟨rfl, hb9⟩
          have HB9 := Lib.hid (below_via hb9 HB.out.2.2)
          clear hb9
          go_wp2
          go_ret
          exact ⟨rfl, HB9.out⟩
set_option maxHeartbeats 800000 in
theorem binReads_big (A D : Option Addr) (k k' c c' : Nat) (w : World) (h : 400 < k) (hk : k ≤ 9223372036854775807) : Calls Try.prog 10 #[.slice A k c, .slice D k' c'] w fun e w' => e = .returned (.bool true) ∧ Below w.heap.size w w' := by
  have h8 : decide ((400 : Int) < k) = true := by simp; omega
  clear h
  go_enter Try.func10, Try.ntmps10
  go_wp2_with fail
  refine (live03_any _).mono ?_
  rintro e w1 ⟨rfl, hb⟩
  have HB := Lib.hid hb
  clear hb
  go_wp2
  go_ret
  exact ⟨rfl, HB.out⟩
theorem binReads_walk (A D : Option Addr) (c c' : Nat) (l : List Int) (ds : List (Int × Int)) (w : World) (hr : Row w .u8 A l) (hb : Byt l) (hnil : A = none → c = 0) (hd : Deeds w D ds) : Calls Try.prog 10 #[.slice A l.length c, .slice D ds.length c'] w fun e w' => e = .returned (.bool true) ∧ Below w.heap.size w w' := by
  by_cases h : 400 < l.length
  · exact binReads_big A D l.length ds.length c c' w h hr.1
  · exact binReads_main A D c c' l ds w hr hb hnil hd (by omega)
end Go.Proofs.Ytlndlcdamimbdaa
