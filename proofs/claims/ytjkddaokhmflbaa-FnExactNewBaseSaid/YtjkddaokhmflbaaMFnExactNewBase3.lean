/- Parts of the proof of the law FnExactNewBase, joined into one text. -/
import Derived.Test.YtjkddaokhmflbaaMFnExactNewBase2
section
namespace Go.Proofs.Ytjkddaokhmflbaa.Q
open Go.RowKit Go.Proofs.YtjkddaokhmflbaaW.PrintWords Go.Proofs.YtjkddaokhmflbaaW.PrintLast Go.Proofs.YtjkddaokhmflbaaW.PrintMore
attribute [local go_sem] max2_int min2_int max_two min_two max_three min_three max_four min_four   -- for this text's walks alone
set_option linter.unusedVariables false
set_option linter.unusedSimpArgs false
attribute [local go_sem] bin_leq bin_gtr bin_geq
theorem bV {b : Nat} {w w' : World} (h : Below b w w' := by repeat (first | (with_reducible first | exact HBW.out | apply below_alloc | apply pw_below_drewN | apply below_drew1 | (refine below_set ?_ (Aside0.out ?_); rotate_left; assumption)) | exact HBW.out)) : Below b w w' := h
theorem bU {b : Nat} {w w' : World} (h : Below b w w' := by repeat (first | (with_reducible first | exact HBX.out | apply below_alloc | apply pw_below_drewN | apply below_drew1 | (refine below_set ?_ (Aside0.out ?_); rotate_left; assumption)) | exact HBX.out)) : Below b w w' := h
theorem laws_FnExactNewBase.hb (k : Nat) (A0 : Option Addr) (n0 c0 : Nat) (l0 : List S25) (A1 : Option Addr) (n1 c1 : Nat) (l1 : List S79) (a1 r : Int) (w : World) (h0 : Kd.C k25 w A0 l0.length l0) (hc0 : n0 ≤ c0) (e0 : n0 = l0.length) (h1 : Kd.C k79 w A1 l1.length l1) (hc1 : n1 ≤ c1) (e1 : n1 = l1.length) (h : laws_heldBase.f k l0 l1 a1 = some r) :
    Calls Try.prog 19 #[.agg #[.slice A0 n0 c0, .slice A1 n1 c1], .int .i64 a1] w fun e w' => e = .returned (.int .i64 r) ∧ Below w.heap.size w w' := by
  subst e0
  subst e1
  exact laws_heldBase.calls k A0 c0 l0 A1 c1 l1 a1 r w h0 hc0 h1 hc1 h
def laws_FnExactNewBase.f (k : Nat) (l0 : List S71) : Option Bool := (laws_szEntryS.f k l0 1048576).bind fun left => if left < 0 then some true else
  (laws_toEntryS.f k l0).bind fun v => (spec_NewBase.f v).bind fun W => (impl_NewBase.f v).bind fun G => (laws_eqBase.f k G.1 G.2.1 W.1 W.2.1).bind fun e1 => (laws_eqEntryS.f k v v).bind fun e2 => (laws_markEntryS.f k v 1).bind fun mk => (laws_markBase.f k G.1 G.2.1 1).bind fun mb => (laws_heldBase.f k mb.2.1 mb.2.2 1).bind fun q =>
  if e1 = true ∧ G.2.2 = W.2.2 ∧ e2 = true ∧ 0 ≤ mk.1 ∧ q = mb.1 ∧ 0 ≤ q then some true else none
set_option maxHeartbeats 4000000 in
set_option maxRecDepth 100000 in
theorem laws_FnExactNewBase.calls (k : Nat) (A0 : Option Addr) (c0 : Nat) (l0 : List S71) (w : World) (hr0 : Kd.C k71 w A0 l0.length l0) (hc0 : l0.length ≤ c0) (h : laws_FnExactNewBase.f k l0 = some true) :
    Calls Try.prog 4 #[.slice A0 l0.length c0] w fun e w' => e = .returned (.bool true) ∧ Below w.heap.size w w' := by
  have HR0 := Aside0.mk hr0
  have HC0 := Aside0.mk hc0
  clear hr0 hc0
  have HB := Aside0.mk (Below.refl w.heap.size w)
  unfold laws_FnExactNewBase.f at h
  obtain ⟨t1, A1, H⟩ := Option.bind_eq_some_iff.mp h
  have ASZ := Aside0.mk A1
  clear A1 h
  have SZ := fun (W : World) (hB : Below w.heap.size w W) => (laws_szEntryS.calls k A0 c0 l0 1048576 t1 W (Kd.C_below HR0.out hB) HC0.out ASZ.out)
  by_cases c1 : t1 < 0
  · have c1b : decide (t1 < 0) = true := decide_eq_true c1
    clear c1 H
    go_enter Try.func4, Try.ntmps4
    go_wp2_with (first
      | (go_at_call 11; (with_reducible refine (laws_szEntryS.calls k A0 c0 l0 1048576 t1 _ ?s1 ?s2 ASZ.out).mono ?_); (case s1 => exact cB HR0); (case s2 => exact HC0.out); rintro e w1 ⟨rfl, hb⟩; have nHB := Aside0.mk (below_step (w := w) bW hb); clear HB; have HB := nHB; clear nHB; clear hb))
    go_ret
    exact ⟨rfl, bW⟩
  have c1b : decide (t1 < 0) = false := decide_eq_false c1
  rw [if_neg c1] at H
  clear c1
  obtain ⟨v5, A2, H⟩ := Option.bind_eq_some_iff.mp H
  obtain ⟨⟨rW1, rW2, rW3⟩, A3, H⟩ := Option.bind_eq_some_iff.mp H
  obtain ⟨⟨r1, r2, r3⟩, A4, H⟩ := Option.bind_eq_some_iff.mp H
  obtain ⟨e1, A5, H⟩ := Option.bind_eq_some_iff.mp H
  obtain ⟨e2, A6, H⟩ := Option.bind_eq_some_iff.mp H
  obtain ⟨⟨mk1, mk2⟩, A7, H⟩ := Option.bind_eq_some_iff.mp H
  obtain ⟨⟨mb1, mb2, mb3⟩, A8, H⟩ := Option.bind_eq_some_iff.mp H
  obtain ⟨q, A9, H⟩ := Option.bind_eq_some_iff.mp H
  have H2 : e1 = true ∧ r3 = rW3 ∧ e2 = true ∧ 0 ≤ mk1 ∧ q = mb1 ∧ 0 ≤ q := by
    by_cases hc : e1 = true ∧ r3 = rW3 ∧ e2 = true ∧ 0 ≤ mk1 ∧ q = mb1 ∧ 0 ≤ q
    · exact hc
    · exact absurd ((if_neg hc).symm.trans H) (by simp)
  clear H
  obtain ⟨rfl, rfl, rfl, hmk, rfl, hq⟩ := H2
  have c2b : decide (mk1 < 0) = false := decide_eq_false (by omega)
  have c3b : decide (q < 0) = false := decide_eq_false (by omega)
  clear hmk hq
  have AV := Aside0.mk A2
  have AW := Aside0.mk (show spec_NewBase.f v5 = some (rW1, rW2, r3) from A3)
  have AG := Aside0.mk (show impl_NewBase.f v5 = some (r1, r2, r3) from A4)
  have AE := Aside0.mk (show laws_eqBase.f k r1 r2 rW1 rW2 = some true from A5)
  have AX := Aside0.mk A6
  have AM := Aside0.mk (show laws_markEntryS.f k v5 1 = some (mk1, mk2) from A7)
  have AMB := Aside0.mk (show laws_markBase.f k r1 r2 1 = some (q, mb2, mb3) from A8)
  have AH := Aside0.mk (show laws_heldBase.f k mb2 mb3 1 = some q from A9)
  clear A2 A3 A4 A5 A6 A7 A8 A9
  go_enter Try.func4, Try.ntmps4
  go_upto_region 5 with (first
    | (go_at_call 11; (with_reducible refine (laws_szEntryS.calls k A0 c0 l0 1048576 t1 _ ?s1 ?s2 ASZ.out).mono ?_); (case s1 => exact cB HR0); (case s2 => exact HC0.out); rintro e w1 ⟨rfl, hb⟩; have nHB := Aside0.mk (below_step (w := w) bW hb); clear HB; have HB := nHB; clear nHB; clear hb))
  go_upto_region 6 with (first
    | (go_at_call 13; (with_reducible refine (laws_toEntryS.calls k A0 c0 l0 v5 _ ?s1 ?s2 AV.out).mono ?_); (case s1 => exact cB HR0); (case s2 => exact HC0.out); rintro e w2 ⟨v2, rfl, ho, hb⟩; have nHB := Aside0.mk (below_step (w := w) bW hb); clear HB; have HB := nHB; clear nHB; have HV := Aside0.mk ho; clear ho hb; obtain ⟨Av, cv, ev⟩ := Kd.R_slice HV.out; subst ev)
    | (go_at_call 12; (with_reducible refine (spec_NewBase.calls _ _ v5 rW1 rW2 r3 _ ?s1 ?s2 AW.out).mono ?_); (case s1 => repeat (first | exact (Kd.R_reads' HV.out).2.2 | (with_reducible refine Kd.C_alloc ?_ _) | (with_reducible refine Kd.C_drewN ?_ _) | (with_reducible refine Kd.C_drew ?_))); (case s2 => exact (Kd.R_reads' HV.out).2.1); rintro e w3 ⟨z0, z1, rfl, hn, hr, hb⟩; have nHB := Aside0.mk (below_step (w := w) bW hb); clear HB; have HB := nHB; clear nHB; have HB3 := Aside0.mk HB.out; have HBW := Aside0.mk (Below.refl w3.heap.size w3); obtain ⟨AW0, cW0, ez0⟩ := Kd.N_slice hn; subst ez0; obtain ⟨AW1, cW1, ez1⟩ := Kd.R_slice hr; subst ez1; have CW0 := Aside0.mk (Kd.N_reads' hn).2.2; have LW0 := Aside0.mk (Kd.N_reads' hn).2.1; have CW1 := Aside0.mk (Kd.R_reads' hr).2.2; have LW1 := Aside0.mk (Kd.R_reads' hr).2.1; clear hn hr hb HV))
  obtain ⟨w4, hw4⟩ : ∃ w_ : World, w_ = w3.alloc (.cells #[.slice AW0 rW1.length cW0, .slice AW1 rW2.length cW1] 36 (0, 0)) := ⟨_, rfl⟩
  rw [← hw4]
  have nBK4 : Aside0 (w4.heap[w3.heap.size]? = some (.cells #[.slice AW0 rW1.length cW0, .slice AW1 rW2.length cW1] 36 (0, 0))) := Aside0.mk (by rw [hw4]; exact heap_alloc_new w3 _)
  have nHB : Aside0 (Below w.heap.size w w4) := Aside0.mk (by rw [hw4]; exact below_alloc HB.out _)
  have nHBW : Aside0 (Below w3.heap.size w3 w4) := Aside0.mk (by rw [hw4]; exact below_alloc HBW.out _)
  (try clear BK4); have BK4 := nBK4; clear nBK4; (try clear HB); have HB := nHB; clear nHB; (try clear HBW); have HBW := nHBW; clear nHBW
  clear hw4
  go_upto_region 7 with (first
    | (go_at_call 13; (with_reducible refine (laws_toEntryS.calls k A0 c0 l0 v5 _ ?s1 ?s2 AV.out).mono ?_); (case s1 => exact cB HR0); (case s2 => exact HC0.out); rintro e w6 ⟨v6, rfl, ho, hb⟩; have HX := Aside0.mk (Kd.R_lower ho (below_size (w := w3) bV)); have HXB := Aside0.mk (Kd.R_lt ho); have HBX := Aside0.mk (Below.refl w6.heap.size w6); have LE6 := Aside0.mk (show w3.heap.size ≤ w6.heap.size from Nat.le_trans (below_size (w := w3) bV) hb.size); have nHB := Aside0.mk (below_step (w := w) bW hb); have nHBW := Aside0.mk (below_step (w := w3) bV hb); have nBK4 := Aside0.mk (kb BK4 hb); clear HB; have HB := nHB; clear nHB; clear HBW; have HBW := nHBW; clear nHBW; clear BK4; have BK4 := nBK4; clear nBK4; have G4 := Aside0.mk (blk_lt BK4.out); clear ho hb; obtain ⟨aX, cX, ex⟩ := Kd.R_slice HX.out; subst ex))
  go_upto_region 8 with (first
    | (go_at_call 14; (with_reducible refine (impl_NewBase.calls _ _ v5 r1 r2 r3 _ ?s1 ?s2 AG.out).mono ?_); (case s1 => repeat (first | exact (Kd.R_reads' HX.out).2.2 | (with_reducible refine Kd.C_alloc ?_ _) | (with_reducible refine Kd.C_drewN ?_ _) | (with_reducible refine Kd.C_drew ?_))); (case s2 => exact (Kd.R_reads' HX.out).2.1); rintro e w8 ⟨z0, z1, rfl, hs, hr, hb⟩; have HG0 := Aside0.mk (Kd.S_lower (Kd.S_mono (ok' := fun k_ => w6.heap.size ≤ k_) (Kd.S_bound hs) (fun k_ hk => Nat.le_trans (below_size (w := w6) bU) hk.2.1)) (below_size (w := w6) bU)); have HG1 := Aside0.mk (Kd.R_lower (Kd.R_mono (ok' := fun k_ => w6.heap.size ≤ k_) (Kd.R_bound hr) (fun k_ hk => Nat.le_trans (below_size (w := w6) bU) hk.2.1)) (below_size (w := w6) bU)); have nHB := Aside0.mk (below_step (w := w) bW hb); have nHBW := Aside0.mk (below_step (w := w3) bV hb); have nHBX := Aside0.mk (below_step (w := w6) bU hb); have nHX := Aside0.mk (Kd.R_below (pR HX) hb); have nBK4 := Aside0.mk (kb BK4 hb); clear HB; have HB := nHB; clear nHB; clear HBW; have HBW := nHBW; clear nHBW; clear HBX; have HBX := nHBX; clear nHBX; clear HX; have HX := nHX; clear nHX; clear BK4; have BK4 := nBK4; clear nBK4; clear hs hr hb; obtain ⟨AG0, cG0, ez0⟩ := Kd.S_slice HG0.out; subst ez0; obtain ⟨AG1, cG1, ez1⟩ := Kd.R_slice HG1.out; subst ez1))
  have G7 := Aside0.mk (show w6.heap.size ≤ w8.heap.size from below_size HBX.out)
  obtain ⟨w9, hw9⟩ : ∃ w_ : World, w_ = w8.alloc (.cells #[.slice AG0 r1.length cG0, .slice AG1 r2.length cG1] 36 (0, 0)) := ⟨_, rfl⟩
  rw [← hw9]
  have nBK7 : Aside0 (w9.heap[w8.heap.size]? = some (.cells #[.slice AG0 r1.length cG0, .slice AG1 r2.length cG1] 36 (0, 0))) := Aside0.mk (by rw [hw9]; exact heap_alloc_new w8 _)
  have nHB : Aside0 (Below w.heap.size w w9) := Aside0.mk (by rw [hw9]; exact below_alloc HB.out _)
  have nHBW : Aside0 (Below w3.heap.size w3 w9) := Aside0.mk (by rw [hw9]; exact below_alloc HBW.out _)
  have nHX : Aside0 (Kd.R k74 74 w9 w3.heap.size (fun _ => True) (.slice aX v5.length cX) v5) := Aside0.mk (by rw [hw9]; exact Kd.R_alloc HX.out _)
  have nBK4 : Aside0 (w9.heap[w3.heap.size]? = some (.cells #[.slice AW0 rW1.length cW0, .slice AW1 rW2.length cW1] 36 (0, 0))) := Aside0.mk (by rw [hw9]; exact blk_alloc BK4.out _)
  have nHG0 : Aside0 (Kd.S k25 25 w9 w6.heap.size (fun k_ => w6.heap.size ≤ k_ ∧ k_ ≠ w8.heap.size) (.slice AG0 r1.length cG0) r1) := Aside0.mk (by rw [hw9]; exact Kd.S_alloc (Kd.S_elderB HG0.out w8.heap.size (Nat.le_refl _)) _)
  have nHG1 : Aside0 (Kd.R k79 79 w9 w6.heap.size (fun k_ => w6.heap.size ≤ k_ ∧ k_ ≠ w8.heap.size) (.slice AG1 r2.length cG1) r2) := Aside0.mk (by rw [hw9]; exact Kd.R_alloc (Kd.R_elderB HG1.out w8.heap.size (Nat.le_refl _)) _)
  (try clear BK7); have BK7 := nBK7; clear nBK7; (try clear HB); have HB := nHB; clear nHB; (try clear HBW); have HBW := nHBW; clear nHBW; (try clear HX); have HX := nHX; clear nHX; (try clear BK4); have BK4 := nBK4; clear nBK4; (try clear HG0); have HG0 := nHG0; clear nHG0; (try clear HG1); have HG1 := nHG1; clear nHG1
  clear hw9
  clear HBX
  obtain ⟨hBK4a, hBK4b⟩ := cz2 BK4; obtain ⟨hBK4c, hBK4d⟩ := fz2 BK4; obtain ⟨hBK7a, hBK7b⟩ := cz2 BK7; obtain ⟨hBK7c, hBK7d⟩ := fz2 BK7
  have c4b : (r3 != r3) = false := bne_self_eq_false _
  have c5b : (q != q) = false := bne_self_eq_false _
  go_upto_region 10 with (first
    | (go_at_call 15; (with_reducible refine (laws_eqBase.calls k _ _ r1 _ _ r2 _ _ rW1 _ _ rW2 true _ ?s1 ?s2 ?s3 ?s4 ?s5 ?s6 ?s7 ?s8 AE.out).mono ?_); (case s1 => repeat (first | exact (Kd.S_reads' HG0.out).2.2 | (with_reducible refine Kd.C_alloc ?_ _) | (with_reducible refine Kd.C_drewN ?_ _) | (with_reducible refine Kd.C_drew ?_))); (case s2 => exact (Kd.S_reads' HG0.out).2.1); (case s3 => repeat (first | exact (Kd.R_reads' HG1.out).2.2 | (with_reducible refine Kd.C_alloc ?_ _) | (with_reducible refine Kd.C_drewN ?_ _) | (with_reducible refine Kd.C_drew ?_))); (case s4 => exact (Kd.R_reads' HG1.out).2.1); (case s5 => exact Kd.C_below CW0.out bV); (case s6 => exact LW0.out); (case s7 => exact Kd.C_below CW1.out bV); (case s8 => exact LW1.out); rintro e w10 ⟨rfl, hb⟩; have nHB := Aside0.mk (below_step (w := w) bW hb); have nHBW := Aside0.mk (below_step (w := w3) bV hb); have nHX := Aside0.mk (Kd.R_below (pR HX) hb); have nBK4 := Aside0.mk (kb BK4 hb); have nBK7 := Aside0.mk (kb BK7 hb); have nHG0 := Aside0.mk (Kd.S_below (by (with_reducible repeat (first | apply Kd.S_alloc | apply Kd.S_drewN | apply Kd.S_drew)); exact HG0.out) hb); have nHG1 := Aside0.mk (Kd.R_below (by (with_reducible repeat (first | apply Kd.R_alloc | apply Kd.R_drewN | apply Kd.R_drew)); exact HG1.out) hb); clear HB; have HB := nHB; clear nHB; clear HBW; have HBW := nHBW; clear nHBW; clear HX; have HX := nHX; clear nHX; clear BK4; have BK4 := nBK4; clear nBK4; clear BK7; have BK7 := nBK7; clear nBK7; clear HG0; have HG0 := nHG0; clear nHG0; clear HG1; have HG1 := nHG1; clear nHG1; clear hBK4a hBK4b hBK4c hBK4d; clear hBK7a hBK7b hBK7c hBK7d; obtain ⟨hBK4a, hBK4b⟩ := cz2 BK4; obtain ⟨hBK4c, hBK4d⟩ := fz2 BK4; obtain ⟨hBK7a, hBK7b⟩ := cz2 BK7; obtain ⟨hBK7c, hBK7d⟩ := fz2 BK7; clear hb))
  go_upto_region 12 with (first
    | (go_at_call 13; (with_reducible refine (laws_toEntryS.calls k A0 c0 l0 v5 _ ?s1 ?s2 AV.out).mono ?_); (case s1 => exact cB HR0); (case s2 => exact HC0.out); rintro e w11 ⟨v11, rfl, ho, hb⟩; have nHB := Aside0.mk (below_step (w := w) bW hb); have nHBW := Aside0.mk (below_step (w := w3) bV hb); have nHX := Aside0.mk (Kd.R_below (pR HX) hb); have nBK4 := Aside0.mk (kb BK4 hb); have nBK7 := Aside0.mk (kb BK7 hb); have nHG0 := Aside0.mk (Kd.S_below (by (with_reducible repeat (first | apply Kd.S_alloc | apply Kd.S_drewN | apply Kd.S_drew)); exact HG0.out) hb); have nHG1 := Aside0.mk (Kd.R_below (by (with_reducible repeat (first | apply Kd.R_alloc | apply Kd.R_drewN | apply Kd.R_drew)); exact HG1.out) hb); clear HB; have HB := nHB; clear nHB; clear HBW; have HBW := nHBW; clear nHBW; clear HX; have HX := nHX; clear nHX; clear BK4; have BK4 := nBK4; clear nBK4; clear BK7; have BK7 := nBK7; clear nBK7; clear HG0; have HG0 := nHG0; clear nHG0; clear HG1; have HG1 := nHG1; clear nHG1; have HT := Aside0.mk ho; clear ho hb; obtain ⟨aT, cT, et⟩ := Kd.R_slice HT.out; subst et)
    | (go_at_call 16; (with_reducible refine (laws_eqEntryS.calls k _ _ v5 _ _ v5 true _ ?s1 ?s2 ?s3 ?s4 AX.out).mono ?_); (case s1 => repeat (first | exact (Kd.R_reads' HX.out).2.2 | (with_reducible refine Kd.C_alloc ?_ _) | (with_reducible refine Kd.C_drewN ?_ _) | (with_reducible refine Kd.C_drew ?_))); (case s2 => exact (Kd.R_reads' HX.out).2.1); (case s3 => repeat (first | exact (Kd.R_reads' HT.out).2.2 | (with_reducible refine Kd.C_alloc ?_ _) | (with_reducible refine Kd.C_drewN ?_ _) | (with_reducible refine Kd.C_drew ?_))); (case s4 => exact (Kd.R_reads' HT.out).2.1); rintro e w12 ⟨rfl, hb⟩; have nHB := Aside0.mk (below_step (w := w) bW hb); have nHBW := Aside0.mk (below_step (w := w3) bV hb); have nHX := Aside0.mk (Kd.R_below (pR HX) hb); have nBK4 := Aside0.mk (kb BK4 hb); have nBK7 := Aside0.mk (kb BK7 hb); have nHG0 := Aside0.mk (Kd.S_below (by (with_reducible repeat (first | apply Kd.S_alloc | apply Kd.S_drewN | apply Kd.S_drew)); exact HG0.out) hb); have nHG1 := Aside0.mk (Kd.R_below (by (with_reducible repeat (first | apply Kd.R_alloc | apply Kd.R_drewN | apply Kd.R_drew)); exact HG1.out) hb); clear HB; have HB := nHB; clear nHB; clear HBW; have HBW := nHBW; clear nHBW; clear HX; have HX := nHX; clear nHX; clear BK4; have BK4 := nBK4; clear nBK4; clear BK7; have BK7 := nBK7; clear nBK7; clear HG0; have HG0 := nHG0; clear nHG0; clear HG1; have HG1 := nHG1; clear nHG1; clear hb HT))
  go_upto_region 14 with (first
    | (go_at_call 17; (with_reducible refine (laws_markEntryS.calls k (fun k_ => some k_ = (Value.slice aX v5.length cX).ownBlock) _ v5 1 mk1 mk2 w3 _ ?s1 ?s2 AM.out).mono ?_); (case s1 => exact bV); (case s2 => exact Kd.R_tight rfl (pR HX)); rintro e w13 ⟨rfl, hr, hb, hk⟩; have nBK4 := Aside0.mk (blk_kept (kB BK4) hk (Kd.R_ne HX.out BK4.out (by decide))); have nBK7 := Aside0.mk (blk_kept (kB BK7) hk (fun hs => Nat.lt_irrefl _ (Nat.lt_of_le_of_lt G7.out (HXB.out _ hs.symm)))); have nHG0 := Aside0.mk (Kd.S_kept (by (with_reducible repeat (first | apply Kd.S_alloc | apply Kd.S_drewN | apply Kd.S_drew)); exact HG0.out) hk (fun k_ (hq : w6.heap.size ≤ k_ ∧ k_ ≠ w8.heap.size) hs => Nat.lt_irrefl _ (Nat.lt_of_le_of_lt hq.1 (HXB.out _ hs.symm)))); have nHG1 := Aside0.mk (Kd.R_kept (by (with_reducible repeat (first | apply Kd.R_alloc | apply Kd.R_drewN | apply Kd.R_drew)); exact HG1.out) hk (fun k_ (hq : w6.heap.size ≤ k_ ∧ k_ ≠ w8.heap.size) hs => Nat.lt_irrefl _ (Nat.lt_of_le_of_lt hq.1 (HXB.out _ hs.symm)))); have nHB := Aside0.mk (below_step (w := w) HB3.out hb); have nHBW := Aside0.mk hb; clear HX HXB hr hb hk BK4 BK7 HG0 HG1 HB HBW; have BK4 := nBK4; have BK7 := nBK7; have HG0 := nHG0; have HG1 := nHG1; have HB := nHB; have HBW := nHBW; clear nBK4 nBK7 nHG0 nHG1 nHB nHBW; clear hBK4a hBK4b hBK4c hBK4d; clear hBK7a hBK7b hBK7c hBK7d; obtain ⟨hBK4a, hBK4b⟩ := cz2 BK4; obtain ⟨hBK4c, hBK4d⟩ := fz2 BK4; obtain ⟨hBK7a, hBK7b⟩ := cz2 BK7; obtain ⟨hBK7c, hBK7d⟩ := fz2 BK7))
  go_upto_region 16 with (first
    | (go_at_call 15; (with_reducible refine (laws_eqBase.calls k _ _ r1 _ _ r2 _ _ rW1 _ _ rW2 true _ ?s1 ?s2 ?s3 ?s4 ?s5 ?s6 ?s7 ?s8 AE.out).mono ?_); (case s1 => repeat (first | exact (Kd.S_reads' HG0.out).2.2 | (with_reducible refine Kd.C_alloc ?_ _) | (with_reducible refine Kd.C_drewN ?_ _) | (with_reducible refine Kd.C_drew ?_))); (case s2 => exact (Kd.S_reads' HG0.out).2.1); (case s3 => repeat (first | exact (Kd.R_reads' HG1.out).2.2 | (with_reducible refine Kd.C_alloc ?_ _) | (with_reducible refine Kd.C_drewN ?_ _) | (with_reducible refine Kd.C_drew ?_))); (case s4 => exact (Kd.R_reads' HG1.out).2.1); (case s5 => exact Kd.C_below CW0.out bV); (case s6 => exact LW0.out); (case s7 => exact Kd.C_below CW1.out bV); (case s8 => exact LW1.out); rintro e w14 ⟨rfl, hb⟩; have nHB := Aside0.mk (below_step (w := w) bW hb); have nHBW := Aside0.mk (below_step (w := w3) bV hb); have nBK4 := Aside0.mk (kb BK4 hb); have nBK7 := Aside0.mk (kb BK7 hb); have nHG0 := Aside0.mk (Kd.S_below (by (with_reducible repeat (first | apply Kd.S_alloc | apply Kd.S_drewN | apply Kd.S_drew)); exact HG0.out) hb); have nHG1 := Aside0.mk (Kd.R_below (by (with_reducible repeat (first | apply Kd.R_alloc | apply Kd.R_drewN | apply Kd.R_drew)); exact HG1.out) hb); clear HB; have HB := nHB; clear nHB; clear HBW; have HBW := nHBW; clear nHBW; clear BK4; have BK4 := nBK4; clear nBK4; clear BK7; have BK7 := nBK7; clear nBK7; clear HG0; have HG0 := nHG0; clear nHG0; clear HG1; have HG1 := nHG1; clear nHG1; clear hBK4a hBK4b hBK4c hBK4d; clear hBK7a hBK7b hBK7c hBK7d; obtain ⟨hBK4a, hBK4b⟩ := cz2 BK4; obtain ⟨hBK4c, hBK4d⟩ := fz2 BK4; obtain ⟨hBK7a, hBK7b⟩ := cz2 BK7; obtain ⟨hBK7c, hBK7d⟩ := fz2 BK7; clear hb))
  have LE := Aside0.mk (show w3.heap.size ≤ w6.heap.size from LE6.out)
  go_upto_region 18 with (first
    | (go_at_call 18; (with_reducible refine (laws_markBase.calls k (fun k_ => w6.heap.size ≤ k_ ∧ k_ ≠ w8.heap.size) _ r1 (fun k_ => w6.heap.size ≤ k_ ∧ k_ ≠ w8.heap.size) _ r2 1 q mb2 mb3 w3 _ ?s1 ?s2 ?s3 AMB.out).mono ?_); (case s1 => exact bV); (case s2 => exact Kd.S_lower (by (with_reducible repeat (first | apply Kd.S_alloc | apply Kd.S_drewN | apply Kd.S_drew)); exact HG0.out) LE.out); (case s3 => exact Kd.R_lower (by (with_reducible repeat (first | apply Kd.R_alloc | apply Kd.R_drewN | apply Kd.R_drew)); exact HG1.out) LE.out); rintro e w15 ⟨rfl, hs, hr, hb, hk⟩; have nBK4 := Aside0.mk (blk_kept (kB BK4) hk (fun h_ => by have := G4.out; rcases h_ with h_ | h_ <;> (have := h_.1; omega))); have nBK7 := Aside0.mk (blk_kept (kB BK7) hk (fun h_ => by rcases h_ with h_ | h_ <;> exact h_.2 rfl)); have nHB := Aside0.mk (below_step (w := w) HB3.out hb); have nHBW := Aside0.mk hb; clear HG0 HG1 BK4 BK7 HB HBW; have HG0 := Aside0.mk hs; have HG1 := Aside0.mk hr; have BK4 := nBK4; have BK7 := nBK7; have HB := nHB; have HBW := nHBW; clear hs hr hb hk nBK4 nBK7 nHB nHBW; clear hBK4a hBK4b hBK4c hBK4d; clear hBK7a hBK7b hBK7c hBK7d; obtain ⟨hBK4a, hBK4b⟩ := cz2 BK4; obtain ⟨hBK4c, hBK4d⟩ := fz2 BK4; obtain ⟨hBK7a, hBK7b⟩ := cz2 BK7; obtain ⟨hBK7c, hBK7d⟩ := fz2 BK7))
  have L2 := Aside0.mk (show r1.length = mb2.length from (Kd.S_reads' HG0.out).1)
  have L3 := Aside0.mk (show r2.length = mb3.length from (Kd.R_reads' HG1.out).1)
  go_upto_region 24 with (first
    | (go_at_call 19; (with_reducible refine (laws_FnExactNewBase.hb k _ _ _ mb2 _ _ _ mb3 1 q _ ?s1 ?s2 L2.out ?s3 ?s4 L3.out AH.out).mono ?_); (case s1 => repeat (first | exact (Kd.S_reads' HG0.out).2.2 | (with_reducible refine Kd.C_alloc ?_ _) | (with_reducible refine Kd.C_drewN ?_ _) | (with_reducible refine Kd.C_drew ?_))); (case s2 => exact (Kd.S_reads' HG0.out).2.1); (case s3 => repeat (first | exact (Kd.R_reads' HG1.out).2.2 | (with_reducible refine Kd.C_alloc ?_ _) | (with_reducible refine Kd.C_drewN ?_ _) | (with_reducible refine Kd.C_drew ?_))); (case s4 => exact (Kd.R_reads' HG1.out).2.1); rintro e w16 ⟨rfl, hb⟩; have nHB := Aside0.mk (below_step (w := w) bW hb); have nHBW := Aside0.mk (below_step (w := w3) bV hb); have nBK4 := Aside0.mk (kb BK4 hb); have nBK7 := Aside0.mk (kb BK7 hb); have nHG0 := Aside0.mk (Kd.S_below (by (with_reducible repeat (first | apply Kd.S_alloc | apply Kd.S_drewN | apply Kd.S_drew)); exact HG0.out) hb); have nHG1 := Aside0.mk (Kd.R_below (by (with_reducible repeat (first | apply Kd.R_alloc | apply Kd.R_drewN | apply Kd.R_drew)); exact HG1.out) hb); clear HB; have HB := nHB; clear nHB; clear HBW; have HBW := nHBW; clear nHBW; clear BK4; have BK4 := nBK4; clear nBK4; clear BK7; have BK7 := nBK7; clear nBK7; clear HG0; have HG0 := nHG0; clear nHG0; clear HG1; have HG1 := nHG1; clear nHG1; clear hBK4a hBK4b hBK4c hBK4d; clear hBK7a hBK7b hBK7c hBK7d; obtain ⟨hBK4a, hBK4b⟩ := cz2 BK4; obtain ⟨hBK4c, hBK4d⟩ := fz2 BK4; obtain ⟨hBK7a, hBK7b⟩ := cz2 BK7; obtain ⟨hBK7c, hBK7d⟩ := fz2 BK7; clear hb))
  go_upto_region 25 with (first
    | (go_at_call 13; (with_reducible refine (laws_toEntryS.calls k A0 c0 l0 v5 _ ?s1 ?s2 AV.out).mono ?_); (case s1 => exact cB HR0); (case s2 => exact HC0.out); rintro e w17 ⟨v17, rfl, ho, hb⟩; have nHB := Aside0.mk (below_step (w := w) bW hb); have nHBW := Aside0.mk (below_step (w := w3) bV hb); have nBK4 := Aside0.mk (kb BK4 hb); have nBK7 := Aside0.mk (kb BK7 hb); have nHG0 := Aside0.mk (Kd.S_below (by (with_reducible repeat (first | apply Kd.S_alloc | apply Kd.S_drewN | apply Kd.S_drew)); exact HG0.out) hb); have nHG1 := Aside0.mk (Kd.R_below (by (with_reducible repeat (first | apply Kd.R_alloc | apply Kd.R_drewN | apply Kd.R_drew)); exact HG1.out) hb); clear HB; have HB := nHB; clear nHB; clear HBW; have HBW := nHBW; clear nHBW; clear BK4; have BK4 := nBK4; clear nBK4; clear BK7; have BK7 := nBK7; clear nBK7; clear HG0; have HG0 := nHG0; clear nHG0; clear HG1; have HG1 := nHG1; clear nHG1; clear hBK4a hBK4b hBK4c hBK4d; clear hBK7a hBK7b hBK7c hBK7d; obtain ⟨hBK4a, hBK4b⟩ := cz2 BK4; obtain ⟨hBK4c, hBK4d⟩ := fz2 BK4; obtain ⟨hBK7a, hBK7b⟩ := cz2 BK7; obtain ⟨hBK7c, hBK7d⟩ := fz2 BK7; have HT := Aside0.mk ho; clear ho hb; obtain ⟨aT, cT, et⟩ := Kd.R_slice HT.out; subst et)
    | (go_at_call 14; (with_reducible refine (impl_NewBase.calls _ _ v5 r1 r2 r3 _ ?s1 ?s2 AG.out).mono ?_); (case s1 => repeat (first | exact (Kd.R_reads' HT.out).2.2 | (with_reducible refine Kd.C_alloc ?_ _) | (with_reducible refine Kd.C_drewN ?_ _) | (with_reducible refine Kd.C_drew ?_))); (case s2 => exact (Kd.R_reads' HT.out).2.1); rintro e w18 ⟨z0, z1, rfl, hs, hr, hb⟩; have HH0 := Aside0.mk hs; have HH1 := Aside0.mk hr; have nHB := Aside0.mk (below_step (w := w) bW hb); have nHBW := Aside0.mk (below_step (w := w3) bV hb); have nBK4 := Aside0.mk (kb BK4 hb); have nBK7 := Aside0.mk (kb BK7 hb); have nHG0 := Aside0.mk (Kd.S_below (by (with_reducible repeat (first | apply Kd.S_alloc | apply Kd.S_drewN | apply Kd.S_drew)); exact HG0.out) hb); have nHG1 := Aside0.mk (Kd.R_below (by (with_reducible repeat (first | apply Kd.R_alloc | apply Kd.R_drewN | apply Kd.R_drew)); exact HG1.out) hb); clear HB; have HB := nHB; clear nHB; clear HBW; have HBW := nHBW; clear nHBW; clear BK4; have BK4 := nBK4; clear nBK4; clear BK7; have BK7 := nBK7; clear nBK7; clear HG0; have HG0 := nHG0; clear nHG0; clear HG1; have HG1 := nHG1; clear nHG1; clear hBK4a hBK4b hBK4c hBK4d; clear hBK7a hBK7b hBK7c hBK7d; obtain ⟨hBK4a, hBK4b⟩ := cz2 BK4; obtain ⟨hBK4c, hBK4d⟩ := fz2 BK4; obtain ⟨hBK7a, hBK7b⟩ := cz2 BK7; obtain ⟨hBK7c, hBK7d⟩ := fz2 BK7; clear hs hr hb HT; obtain ⟨AH0, cH0, ez0⟩ := Kd.S_slice HH0.out; subst ez0; obtain ⟨AH1, cH1, ez1⟩ := Kd.R_slice HH1.out; subst ez1))
  obtain ⟨w19, hw19⟩ : ∃ w_ : World, w_ = w18.alloc (.cells #[.slice AH0 r1.length cH0, .slice AH1 r2.length cH1] 36 (0, 0)) := ⟨_, rfl⟩
  rw [← hw19]
  have nBK12 : Aside0 (w19.heap[w18.heap.size]? = some (.cells #[.slice AH0 r1.length cH0, .slice AH1 r2.length cH1] 36 (0, 0))) := Aside0.mk (by rw [hw19]; exact heap_alloc_new w18 _)
  have nHB : Aside0 (Below w.heap.size w w19) := Aside0.mk (by rw [hw19]; exact below_alloc HB.out _)
  have nHBW : Aside0 (Below w3.heap.size w3 w19) := Aside0.mk (by rw [hw19]; exact below_alloc HBW.out _)
  have nBK4 : Aside0 (w19.heap[w3.heap.size]? = some (.cells #[.slice AW0 rW1.length cW0, .slice AW1 rW2.length cW1] 36 (0, 0))) := Aside0.mk (by rw [hw19]; exact blk_alloc BK4.out _)
  have nBK7 : Aside0 (w19.heap[w8.heap.size]? = some (.cells #[.slice AG0 r1.length cG0, .slice AG1 r2.length cG1] 36 (0, 0))) := Aside0.mk (by rw [hw19]; exact blk_alloc BK7.out _)
  have nHG0 : Aside0 (Kd.S k25 25 w19 w3.heap.size (fun k_ => w6.heap.size ≤ k_ ∧ k_ ≠ w8.heap.size) (.slice AG0 r1.length cG0) mb2) := Aside0.mk (by rw [hw19]; exact Kd.S_alloc HG0.out _)
  have nHG1 : Aside0 (Kd.R k79 79 w19 w3.heap.size (fun k_ => w6.heap.size ≤ k_ ∧ k_ ≠ w8.heap.size) (.slice AG1 r2.length cG1) mb3) := Aside0.mk (by rw [hw19]; exact Kd.R_alloc HG1.out _)
  have nHH0 : Aside0 (Kd.S k25 25 w19 w17.heap.size (fun _ => True) (.slice AH0 r1.length cH0) r1) := Aside0.mk (by rw [hw19]; exact Kd.S_alloc HH0.out _)
  have nHH1 : Aside0 (Kd.R k79 79 w19 w17.heap.size (fun _ => True) (.slice AH1 r2.length cH1) r2) := Aside0.mk (by rw [hw19]; exact Kd.R_alloc HH1.out _)
  (try clear BK12); have BK12 := nBK12; clear nBK12; (try clear HB); have HB := nHB; clear nHB; (try clear HBW); have HBW := nHBW; clear nHBW; (try clear BK4); have BK4 := nBK4; clear nBK4; (try clear BK7); have BK7 := nBK7; clear nBK7; (try clear HG0); have HG0 := nHG0; clear nHG0; (try clear HG1); have HG1 := nHG1; clear nHG1; (try clear HH0); have HH0 := nHH0; clear nHH0; (try clear HH1); have HH1 := nHH1; clear nHH1
  clear hw19
  clear hBK4a hBK4b hBK4c hBK4d; clear hBK7a hBK7b hBK7c hBK7d
  obtain ⟨hBK4a, hBK4b⟩ := cz2 BK4; obtain ⟨hBK4c, hBK4d⟩ := fz2 BK4; obtain ⟨hBK7a, hBK7b⟩ := cz2 BK7; obtain ⟨hBK7c, hBK7d⟩ := fz2 BK7; obtain ⟨hBK12a, hBK12b⟩ := cz2 BK12; obtain ⟨hBK12c, hBK12d⟩ := fz2 BK12
  go_upto_region 27 with (first
    | (go_at_call 15; (with_reducible refine (laws_eqBase.calls k _ _ r1 _ _ r2 _ _ rW1 _ _ rW2 true _ ?s1 ?s2 ?s3 ?s4 ?s5 ?s6 ?s7 ?s8 AE.out).mono ?_); (case s1 => repeat (first | exact (Kd.S_reads' HH0.out).2.2 | (with_reducible refine Kd.C_alloc ?_ _) | (with_reducible refine Kd.C_drewN ?_ _) | (with_reducible refine Kd.C_drew ?_))); (case s2 => exact (Kd.S_reads' HH0.out).2.1); (case s3 => repeat (first | exact (Kd.R_reads' HH1.out).2.2 | (with_reducible refine Kd.C_alloc ?_ _) | (with_reducible refine Kd.C_drewN ?_ _) | (with_reducible refine Kd.C_drew ?_))); (case s4 => exact (Kd.R_reads' HH1.out).2.1); (case s5 => exact Kd.C_below CW0.out bV); (case s6 => exact LW0.out); (case s7 => exact Kd.C_below CW1.out bV); (case s8 => exact LW1.out); rintro e w20 ⟨rfl, hb⟩; have nHB := Aside0.mk (below_step (w := w) bW hb); have nBK7 := Aside0.mk (kb BK7 hb); have nHG0 := Aside0.mk (Kd.S_below (by (with_reducible repeat (first | apply Kd.S_alloc | apply Kd.S_drewN | apply Kd.S_drew)); exact HG0.out) hb); have nHG1 := Aside0.mk (Kd.R_below (by (with_reducible repeat (first | apply Kd.R_alloc | apply Kd.R_drewN | apply Kd.R_drew)); exact HG1.out) hb); clear HB; have HB := nHB; clear nHB; clear BK7; have BK7 := nBK7; clear nBK7; clear HG0; have HG0 := nHG0; clear nHG0; clear HG1; have HG1 := nHG1; clear nHG1; clear hBK4a hBK4b hBK4c hBK4d; clear hBK7a hBK7b hBK7c hBK7d; clear hBK12a hBK12b hBK12c hBK12d; obtain ⟨hBK7a, hBK7b⟩ := cz2 BK7; obtain ⟨hBK7c, hBK7d⟩ := fz2 BK7; clear hb))
  go_wp2_with (first
    | (go_at_call 19; (with_reducible refine (laws_FnExactNewBase.hb k _ _ _ mb2 _ _ _ mb3 1 q _ ?s1 ?s2 L2.out ?s3 ?s4 L3.out AH.out).mono ?_); (case s1 => repeat (first | exact (Kd.S_reads' HG0.out).2.2 | (with_reducible refine Kd.C_alloc ?_ _) | (with_reducible refine Kd.C_drewN ?_ _) | (with_reducible refine Kd.C_drew ?_))); (case s2 => exact (Kd.S_reads' HG0.out).2.1); (case s3 => repeat (first | exact (Kd.R_reads' HG1.out).2.2 | (with_reducible refine Kd.C_alloc ?_ _) | (with_reducible refine Kd.C_drewN ?_ _) | (with_reducible refine Kd.C_drew ?_))); (case s4 => exact (Kd.R_reads' HG1.out).2.1); rintro e w21 ⟨rfl, hb⟩; have nHB := Aside0.mk (below_step (w := w) bW hb); clear HB; have HB := nHB; clear nHB; clear hb))
  go_ret
  exact ⟨rfl, bW⟩
end Go.Proofs.Ytjkddaokhmflbaa.Q
end

section
namespace Go.Proofs.Ytjkddaokhmflbaa.Q
open Go.RowKit Go.Proofs.YtjkddaokhmflbaaW.PrintWords Go.Proofs.YtjkddaokhmflbaaW.PrintLast Go.Proofs.YtjkddaokhmflbaaW.PrintMore
attribute [local go_sem] max2_int min2_int max_two min_two max_three min_three max_four min_four   -- for this text's walks alone
set_option linter.unusedVariables false
set_option linter.unusedSimpArgs false
attribute [local go_sem] bin_leq bin_gtr bin_geq
def Opens {α : Type} (P : Program) (d : Kd α) (t : TypeId) (G : α → Prop) : Prop :=
  P.cellsOf t = d.sz ∧ ∀ {H : Type} (enc : TypeId × Value → H) (w : World) (base : Nat) (spare : Nat → Bool) (held : Bool) (fuel : Nat) (cs : List Value) (x : DataW H × List MemPlace),
    DataW.trod enc P w base spare held fuel t cs = some x → ∃ v, d.K w v cs ∧ G v
theorem add_twice (a : Addr) (m i : Nat) : (a.add m).add i = a.add (m + i) := by
  unfold Addr.add
  by_cases h1 : m = 0 <;> by_cases h2 : i = 0 <;> simp_all [Nat.add_assoc]
theorem opens_int {P : Program} {t : TypeId} {k : IntKind} (ht : P.underlying t = some (.int k)) (hc : P.cellsOf t = 1) : Opens P (Kd.int k) t (fun n => (Lit.int k n).wf = true) := by
  refine ⟨hc, fun enc w base spare held fuel cs x h => ?_⟩
  cases fuel with
  | zero => simp [DataW.trod] at h
  | succ n =>
    unfold DataW.trod at h
    rw [ht] at h
    split at h <;> simp_all
    obtain ⟨⟨rfl, h1⟩, _⟩ := h
    exact ⟨_, rfl, h1⟩
theorem opens_string {P : Program} {t : TypeId} (ht : P.underlying t = some .string) (hc : P.cellsOf t = 1) : Opens P Kd.string t (fun s => s.size ≤ 9223372036854775807) := by
  refine ⟨hc, fun enc w base spare held fuel cs x h => ?_⟩
  cases fuel with
  | zero => simp [DataW.trod] at h
  | succ n =>
    unfold DataW.trod at h
    rw [ht] at h
    split at h <;> simp_all
    exact ⟨_, rfl, h.1⟩
theorem list_of {α : Type} {Q : Nat → α → Prop} : ∀ n, (∀ i, i < n → ∃ v, Q i v) → ∃ l : List α, l.length = n ∧ ∀ i v, l[i]? = some v → Q i v
  | 0, _ => ⟨[], rfl, fun i v h => by simp at h⟩
  | n + 1, h => by
    obtain ⟨l, hl, hq⟩ := list_of n (fun i hi => h i (by omega))
    obtain ⟨v, hv⟩ := h n (by omega)
    refine ⟨l ++ [v], by simp [hl], fun i u hu => ?_⟩
    by_cases hi : i < l.length
    · rw [List.getElem?_append_left hi] at hu
      exact hq i u hu
    · have hi2 : i = l.length := by
        have := (List.getElem?_eq_some_iff.1 hu).1
        rw [List.length_append, List.length_singleton] at this
        omega
      subst hi2
      have hu' : v = u := by simpa using hu
      subst hu'
      rw [hl]
      exact hv
theorem opens_slice {α : Type} {P : Program} {d : Kd α} {t e : TypeId} {G : α → Prop} (ht : P.underlying t = some (.slice e)) (hc : P.cellsOf t = 1) (O : Opens P d e G) :
    Opens P (Kd.slice e d) t (fun l => l.length ≤ 9223372036854775807 ∧ ∀ x, x ∈ l → G x) := by
  refine ⟨hc, fun enc w base spare held fuel cs x h => ?_⟩
  rcases DataW.trod_slice ht h with ⟨rfl, _⟩ | ⟨a, len, cap, elems, rest, n, _, rfl, _, hb, hl, hm, hlen, hel, _, _⟩
  · exact ⟨[], ⟨none, 0, rfl, Nat.le_refl _, Kd.C_nil d w⟩, by simp, fun x hx => by simp at hx⟩
  · have each : ∀ i, i < len → ∃ v : α, (∃ c, c.length = d.sz ∧ d.K w v c ∧ ∀ j u, c[j]? = some u → w.cell? (a.add (i * d.sz + j)) = some u) ∧ G v := by
      intro i hi
      have h1 := hel i hi
      have h2 : elems[i]? = some (elems[i]'(by omega)) := List.getElem?_eq_getElem (by omega)
      rw [h2, Option.bind_eq_some_iff] at h1
      obtain ⟨c, hcc, htr⟩ := h1
      obtain ⟨v, hK, hG⟩ := O.2 enc w base spare held n c _ htr
      obtain ⟨_, hcl, hcells⟩ := World.cells?_some hcc
      refine ⟨v, ⟨c, d.K_len hK, hK, fun j u hu => ?_⟩, hG⟩
      have hj : j < c.length := (List.getElem?_eq_some_iff.1 hu).1
      have := hcells j (by omega)
      rw [hu, add_twice, O.1] at this
      exact this
    obtain ⟨l, hll, hq⟩ := list_of len each
    refine ⟨l, ⟨some a, cap, by rw [hll], by omega, hll ▸ ?_⟩, by unfold maxLen at hm; omega, fun x hx => ?_⟩
    · refine ⟨hll, by unfold maxLen at hm; omega, fun hp => ⟨a, rfl, fun j p hj => ?_⟩⟩
      obtain ⟨c, h1, h2, h3⟩ := (hq j p hj).1
      exact ⟨c, h1, h2, h3⟩
    · obtain ⟨i, hi, rfl⟩ := List.mem_iff_getElem.mp hx
      exact (hq i _ (List.getElem?_eq_getElem hi)).2
theorem open_row {α : Type} {P : Program} {d : Kd α} {t e : TypeId} {G : List α → Prop} (O : Opens P (Kd.slice e d) t G) {H : Type} {enc : TypeId × Value → H} {w : World} {base : Nat} {spare : Nat → Bool} {held : Bool} {a : Option Addr} {len cap : Nat} {x : DataW H} {ps : List MemPlace}
    (h : DataW.Trod enc P w base spare held t (.slice a len cap) x ps) : ∃ l, len = l.length ∧ l.length ≤ cap ∧ Kd.C d w a l.length l ∧ G l := by
  obtain ⟨fuel, hf⟩ := h
  obtain ⟨l, ⟨A, c, he, hl, hC⟩, hG⟩ := O.2 enc w base spare held fuel _ _ hf
  simp only [Value.cells] at he
  have he2 : Value.slice a len cap = Value.slice A l.length c := by simpa using he
  injection he2 with h1 h2 h3
  subst h1 h2 h3
  exact ⟨l, rfl, hl, hC, hG⟩
end Go.Proofs.Ytjkddaokhmflbaa.Q
end

section
namespace Go.Proofs.Ytjkddaokhmflbaa.Q
open Go.RowKit Go.Proofs.YtjkddaokhmflbaaW.PrintWords Go.Proofs.YtjkddaokhmflbaaW.PrintLast Go.Proofs.YtjkddaokhmflbaaW.PrintMore
attribute [local go_sem] max2_int min2_int max_two min_two max_three min_three max_four min_four   -- for this text's walks alone
set_option linter.unusedVariables false
set_option linter.unusedSimpArgs false
attribute [local go_sem] bin_leq bin_gtr bin_geq
def good71 (x : S71) : Prop := (fun s => s.size ≤ 9223372036854775807) x.f0 ∧ (fun n => (Lit.int .i64 n).wf = true) x.f1
set_option maxRecDepth 100000 in
theorem opens_71 : Opens Try.prog k71 71 good71 := by
  refine ⟨by kernel_rfl, fun enc w base spare held fuel cs x h => ?_⟩
  obtain ⟨xs, n, _, _, hcl, hxl, hf⟩ := DataW.trod_struct Try.underlying71 h
  have hcl2 : cs.length = 2 := hcl.trans (by kernel_rfl)
  obtain ⟨c0, c1, rfl⟩ : ∃ c0 c1, cs = [c0, c1] := by
    match cs, hcl2 with
    | [c0, c1], _ => exact ⟨c0, c1, rfl⟩
  have h0 := hf 0 _ rfl
  rw [List.getElem?_eq_getElem (show 0 < xs.length by rw [hxl]; decide)] at h0
  obtain ⟨v0, K0, G0⟩ := (opens_string Try.underlying9 (by kernel_rfl)).2 enc w base spare held n [c0] _ ((show DataW.trod enc Try.prog w base spare held n 9 [c0] = _ from (by first | exact h0 | (rw [show Try.prog.cellsOf 9 = 1 by kernel_rfl] at h0; exact h0))))
  have h1 := hf 1 _ rfl
  rw [List.getElem?_eq_getElem (show 1 < xs.length by rw [hxl]; decide)] at h1
  obtain ⟨v1, K1, G1⟩ := (opens_int (k := .i64) Try.underlying3 (by kernel_rfl)).2 enc w base spare held n [c1] _ ((show DataW.trod enc Try.prog w base spare held n 3 [c1] = _ from (by first | exact h1 | (rw [show Try.prog.cellsOf 3 = 1 by kernel_rfl] at h1; exact h1))))
  exact ⟨⟨v0, v1⟩, ⟨[c0], [c1], rfl, K0, K1⟩, ⟨G0, G1⟩⟩
end Go.Proofs.Ytjkddaokhmflbaa.Q
end

section
namespace Go.Proofs.Ytjkddaokhmflbaa.Q
open Go.RowKit Go.Proofs.YtjkddaokhmflbaaW.PrintWords Go.Proofs.YtjkddaokhmflbaaW.PrintLast Go.Proofs.YtjkddaokhmflbaaW.PrintMore
attribute [local go_sem] max2_int min2_int max_two min_two max_three min_three max_four min_four   -- for this text's walks alone
set_option linter.unusedVariables false
set_option linter.unusedSimpArgs false
attribute [local go_sem] bin_leq bin_gtr bin_geq
def laws_FnExactNewBase.Pure : Prop := ∀ (l0 : List (S71)), (fun l => l.length ≤ 9223372036854775807 ∧ ∀ x, x ∈ l → good71 x) l0 → ∃ k, laws_FnExactNewBase.f k l0 = some true
theorem laws_FnExactNewBase.walk (P : laws_FnExactNewBase.Pure) (A0 : Option Addr) (c0 : Nat) (l0 : List (S71)) (w : World) (w0 : (fun l => l.length ≤ 9223372036854775807 ∧ ∀ x, x ∈ l → good71 x) l0) (hr0 : Kd.C k71 w A0 l0.length l0) (hc0 : l0.length ≤ c0) :
    Calls Try.prog 4 #[.slice A0 l0.length c0] w fun e w' => e = .returned (.bool true) ∧ Below w.heap.size w w' := by
  obtain ⟨k, hk⟩ := P l0 w0
  exact (laws_FnExactNewBase.calls k A0 c0 l0 w hr0 hc0 hk).mono fun e w' h => ⟨h.1, h.2⟩
end Go.Proofs.Ytjkddaokhmflbaa.Q
end

section
namespace Go.Proofs.Ytjkddaokhmflbaa.Q
open Go.RowKit Go.Proofs.YtjkddaokhmflbaaW.PrintWords Go.Proofs.YtjkddaokhmflbaaW.PrintLast Go.Proofs.YtjkddaokhmflbaaW.PrintMore
attribute [local go_sem] max2_int min2_int max_two min_two max_three min_three max_four min_four   -- for this text's walks alone
set_option linter.unusedVariables false
set_option linter.unusedSimpArgs false
attribute [local go_sem] bin_leq bin_gtr bin_geq
theorem ev_map_loop {α β : Type} {L : Nat → List α → List β → Int → Option (List β)} {g : Nat → α → Option β} {cv : α → β} {z : α}
    (step : ∀ k xs acc i, L (k + 1) xs acc i = if i < (xs.length : Int) then (if 0 ≤ i then ((g k (xs.getD i.toNat z)).bind fun y => (if i < (acc.length : Int) then (L k xs (acc.set i.toNat y) (wrap64 (i + 1))) else none)) else none) else some acc)
    (xs : List α) (hlen : xs.length ≤ 4611686018427387904) (hg : ∀ x, x ∈ xs → Ev (fun k => g k x) (cv x)) (acc : List β) (ha : acc.length = xs.length) : Ev (fun k => L k xs acc 0) (xs.map cv) := by
  have key : ∀ d (i : Nat) (acc : List β), i + d = xs.length → acc.length = xs.length → Ev (fun k => L k xs acc (i : Int)) (acc.take i ++ (xs.drop i).map cv) := by
    intro d
    induction d with
    | zero =>
      intro i acc hi ha
      refine Ev.step (f := fun _ => some acc) (fun k => by rw [step, if_neg (by omega)]) ?_
      rw [List.take_of_length_le (by omega), List.drop_eq_nil_of_le (by omega)]
      simpa using Ev.now acc
    | succ d ih =>
      intro i acc hi ha
      have hl : i < xs.length := by omega
      have hw : wrap64 ((i : Int) + 1) = ((i + 1 : Nat) : Int) := by unfold wrap64; omega
      have hx : xs.getD ((i : Int).toNat) z = xs[i] := by simp [List.getD_eq_getElem?_getD, List.getElem?_eq_getElem hl]
      refine Ev.step (f := fun k => (g k xs[i]).bind fun y => L k xs (acc.set i y) ((i + 1 : Nat) : Int)) (fun k => ?_) ?_
      · rw [step, if_pos (by omega), if_pos (by omega), hx, hw]
        congr 1
        funext y
        rw [if_pos (by omega)]
        simp
      · have h2 := ih (i + 1) (acc.set i (cv xs[i])) (by omega) (by simpa using ha)
        have e : (acc.set i (cv xs[i])).take (i + 1) ++ (xs.drop (i + 1)).map cv = acc.take i ++ (xs.drop i).map cv := by
          rw [List.drop_eq_getElem_cons hl, List.map_cons, List.take_succ_eq_append_getElem (by simpa using (show i < acc.length by omega)), List.take_set_of_le (by omega)]
          simp
        rw [e] at h2
        exact Ev.bind (hg _ (List.getElem_mem hl)) h2
  have h := key xs.length 0 acc (by omega) ha
  simpa using h
theorem ev_refl_loop {α : Type} {L : Nat → List α → List α → Int → Option Bool} {g : Nat → α → α → Option Bool} {z : α}
    (step : ∀ k xs ys i, L (k + 1) xs ys i = if i < (xs.length : Int) then (if 0 ≤ i then (if i < (ys.length : Int) then ((g k (xs.getD i.toNat z) (ys.getD i.toNat z)).bind fun t => (if t = true then L k xs ys (wrap64 (i + 1)) else some false)) else none) else none) else some true)
    (xs : List α) (hlen : xs.length ≤ 4611686018427387904) (hg : ∀ x, x ∈ xs → Ev (fun k => g k x x) true) : Ev (fun k => L k xs xs 0) true := by
  have key : ∀ d (i : Nat), i + d = xs.length → Ev (fun k => L k xs xs (i : Int)) true := by
    intro d
    induction d with
    | zero =>
      intro i hi
      exact Ev.step (f := fun _ => some true) (fun k => by rw [step, if_neg (by omega)]) (Ev.now true)
    | succ d ih =>
      intro i hi
      have hl : i < xs.length := by omega
      have hw : wrap64 ((i : Int) + 1) = ((i + 1 : Nat) : Int) := by unfold wrap64; omega
      have hx : xs.getD ((i : Int).toNat) z = xs[i] := by simp [List.getD_eq_getElem?_getD, List.getElem?_eq_getElem hl]
      refine Ev.step (f := fun k => (g k xs[i] xs[i]).bind fun t => if t = true then L k xs xs ((i + 1 : Nat) : Int) else some false) (fun k => ?_) ?_
      · rw [step, if_pos (by omega), if_pos (by omega), if_pos (by omega), hx, hw]
      · refine Ev.bind (hg _ (List.getElem_mem hl)) ?_
        simp only [if_true]
        exact ih (i + 1) (by omega)
  exact key xs.length 0 (by omega)
theorem ev_sz_loop {α : Type} {L : Nat → List α → Int → Int → Option Int} {g : Nat → α → Int → Option Int} {z : α}
    (step : ∀ k xs left i, L (k + 1) xs left i = if i < (xs.length : Int) then (if 0 ≤ i then ((g k (xs.getD i.toNat z) left).bind fun t => (if t < 0 then some (-1) else L k xs t (wrap64 (i + 1)))) else none) else some left)
    (xs : List α) (hlen : xs.length ≤ 4611686018427387904) (hg : ∀ x, x ∈ xs → ∀ left : Int, 0 ≤ left → left ≤ 1048576 → ∃ r, Ev (fun k => g k x left) r ∧ r ≤ left) (left : Int) (h0 : 0 ≤ left) (h1 : left ≤ 1048576) :
    ∃ r, Ev (fun k => L k xs left 0) r ∧ r ≤ left := by
  have key : ∀ d (i : Nat) (left : Int), i + d = xs.length → 0 ≤ left → left ≤ 1048576 → ∃ r, Ev (fun k => L k xs left (i : Int)) r ∧ r ≤ left := by
    intro d
    induction d with
    | zero =>
      intro i left hi h0 h1
      exact ⟨left, Ev.step (f := fun _ => some left) (fun k => by rw [step, if_neg (by omega)]) (Ev.now left), by omega⟩
    | succ d ih =>
      intro i left hi h0 h1
      have hl : i < xs.length := by omega
      have hw : wrap64 ((i : Int) + 1) = ((i + 1 : Nat) : Int) := by unfold wrap64; omega
      have hx : xs.getD ((i : Int).toNat) z = xs[i] := by simp [List.getD_eq_getElem?_getD, List.getElem?_eq_getElem hl]
      obtain ⟨t, ht, htl⟩ := hg _ (List.getElem_mem hl) left h0 h1
      by_cases hn : t < 0
      · refine ⟨-1, Ev.step (f := fun k => (g k xs[i] left).bind fun t => if t < 0 then some (-1) else L k xs t ((i + 1 : Nat) : Int)) (fun k => ?_) (Ev.bind ht ?_), by omega⟩
        · rw [step, if_pos (by omega), if_pos (by omega), hx, hw]
        · simp only [hn, if_true]
          exact Ev.now _
      · obtain ⟨r, hr, hrl⟩ := ih (i + 1) t (by omega) (by omega) (by omega)
        refine ⟨r, Ev.step (f := fun k => (g k xs[i] left).bind fun t => if t < 0 then some (-1) else L k xs t ((i + 1 : Nat) : Int)) (fun k => ?_) (Ev.bind ht ?_), by omega⟩
        · rw [step, if_pos (by omega), if_pos (by omega), hx, hw]
        · simp only [hn, if_false]
          exact hr
  exact key xs.length 0 left (by omega) h0 h1
end Go.Proofs.Ytjkddaokhmflbaa.Q
end

section
namespace Go.Proofs.Ytjkddaokhmflbaa.Q
open Go.RowKit Go.Proofs.YtjkddaokhmflbaaW.PrintWords Go.Proofs.YtjkddaokhmflbaaW.PrintLast
set_option linter.unusedVariables false
def cvEntry (x : S71) : S74 := ⟨x.f0, x.f1⟩
theorem toEntryS_ev (l : List S71) (h : l.length ≤ 1048576) : Ev (fun k => laws_toEntryS.f k l) (l.map cvEntry) := by
  refine Ev.congr (f := fun k => laws_toEntryS.l0 k l (List.replicate l.length z74) 0) (fun k => ?_) ?_
  · unfold laws_toEntryS.f
    rw [if_pos (by omega), if_pos (by omega)]
    rfl
  · exact ev_map_loop (L := laws_toEntryS.l0) (g := fun _ x => some (cvEntry x)) (z := z71) (fun _ _ _ _ => rfl) l (by omega) (fun x _ => Ev.now _) _ (by simp)
theorem eqEntry_refl (x : S74) : laws_eqEntry.f x.f0 x.f1 x.f0 x.f1 = some true := by
  unfold laws_eqEntry.f
  simp
theorem eqEntryS_ev (l : List S74) (h : l.length ≤ 1048576) : Ev (fun k => laws_eqEntryS.f k l l) true := by
  refine Ev.congr (f := fun k => laws_eqEntryS.l0 k l l 0) (fun k => ?_) ?_
  · unfold laws_eqEntryS.f
    rw [if_pos rfl]
  · exact ev_refl_loop (L := laws_eqEntryS.l0) (g := fun _ x y => laws_eqEntry.f x.f0 x.f1 y.f0 y.f1) (z := z74) (fun _ _ _ _ => rfl) l (by omega) (fun x _ => Ev.congr (fun _ => eqEntry_refl x) (Ev.now _))
theorem szEntryS_ev (l : List S71) (hl : l.length ≤ 9223372036854775807) (hg : ∀ x, x ∈ l → good71 x) (left : Int) (h0 : 0 ≤ left) (h1 : left ≤ 1048576) :
    ∃ r, Ev (fun k => laws_szEntryS.f k l left) r ∧ r ≤ left ∧ (0 ≤ r → l.length ≤ 1048576) := by
  have hw : wrap64 (left - (l.length : Int)) = left - (l.length : Int) := by unfold wrap64; omega
  by_cases hn : left - (l.length : Int) < 0
  · refine ⟨-1, Ev.congr (f := fun _ => some (-1)) (fun k => ?_) (Ev.now _), by omega, by omega⟩
    unfold laws_szEntryS.f
    rw [hw, if_pos hn]
  · obtain ⟨r, hr, hrl⟩ := ev_sz_loop (L := laws_szEntryS.l0) (g := fun _ x left => laws_szEntry.f x.f0 x.f1 left) (z := z71) (fun _ _ _ _ => rfl) l (by omega) (fun x hx left h0 h1 => by
      have hsz : x.f0.size ≤ 9223372036854775807 := (hg x hx).1
      have hw2 : wrap64 (left - (x.f0.size : Int)) = left - (x.f0.size : Int) := by unfold wrap64; omega
      by_cases h2 : left - (x.f0.size : Int) < 0
      · refine ⟨-1, Ev.congr (f := fun _ => some (-1)) (fun k => ?_) (Ev.now _), by omega⟩
        unfold laws_szEntry.f
        rw [hw2, if_pos h2]
      · refine ⟨left - (x.f0.size : Int), Ev.congr (f := fun _ => some (left - (x.f0.size : Int))) (fun k => ?_) (Ev.now _), by omega⟩
        unfold laws_szEntry.f
        rw [hw2, if_neg h2]) (left - (l.length : Int)) (by omega) (by omega)
    refine ⟨r, Ev.congr (f := fun k => laws_szEntryS.l0 k l (left - (l.length : Int)) 0) (fun k => ?_) hr, by omega, by omega⟩
    unfold laws_szEntryS.f
    rw [hw, if_neg hn]
end Go.Proofs.Ytjkddaokhmflbaa.Q
end

section
namespace Go.Proofs.Ytjkddaokhmflbaa.Q
open Go.RowKit Go.Proofs.YtjkddaokhmflbaaW.PrintWords Go.Proofs.YtjkddaokhmflbaaW.PrintLast
set_option linter.unusedVariables false
theorem Ev.at_ {α : Type} {g : Nat → Option α} {r : α} {c : Nat} (e : ∀ k, g (k + c) = some r) : Ev g r := by
  refine ⟨c, fun n hn => ?_⟩
  obtain ⟨m, rfl⟩ : ∃ m, n = m + c := ⟨n - c, by omega⟩
  exact e m
theorem Ev.succ {α : Type} {g : Nat → Option α} {r : α} (h : Ev (fun k => g (k + 1)) r) : Ev g r := Ev.step (fun _ => rfl) h
theorem wrap_i {i : Nat} (h : i < 4611686018427387904) : wrap64 ((i : Int) + 1) = ((i + 1 : Nat) : Int) := by unfold wrap64; omega
end Go.Proofs.Ytjkddaokhmflbaa.Q
end

section
namespace Go.Proofs.Ytjkddaokhmflbaa.Q
open Go.RowKit Go.Proofs.YtjkddaokhmflbaaW.PrintWords Go.Proofs.YtjkddaokhmflbaaW.PrintLast
set_option linter.unusedVariables false
set_option linter.unusedSimpArgs false
theorem markText_l0 : ∀ (d : Nat) (n : Int) (s : ByteArray), 0 ≤ n → n ≤ 9223372036854775807 → n < 10 ^ d → s.size + d ≤ 1000 → ∃ r, Ev (fun k => laws_markText.l0 k n s) r := by
  intro d
  induction d with
  | zero =>
    intro n s h0 hn9 h1 hs
    have hn : ¬ n > 0 := by simp at h1; omega
    have hz : 1 + s.size ≤ 9223372036854775807 := by omega
    exact ⟨_, Ev.at_ (c := 1) (fun k => by simp only [laws_markText.l0, hn, if_false, hz, if_true]; rfl)⟩
  | succ d ih =>
    intro n s h0 hn9 h1 hs
    by_cases hn : n > 0
    · have e1 : Int.tdiv n 10 = n / 10 := Int.tdiv_eq_ediv_of_nonneg h0
      have h2 : n / 10 < 10 ^ d := by
        rw [Int.pow_succ] at h1
        omega
      have hw : wrap64 (n / 10) = n / 10 := by unfold wrap64; omega
      have hz : (strOfNums [(wrap64 (48 + (Int.tmod n 10))) % 256]).size = 1 := rfl
      have hz2 : 1 + s.size ≤ 9223372036854775807 := by omega
      obtain ⟨r, hr⟩ := ih (n / 10) (strOfNums [(wrap64 (48 + (Int.tmod n 10))) % 256] ++ s) (by omega) (by omega) h2 (by rw [ByteArray.size_append, hz]; omega)
      refine ⟨r, Ev.step (fun k => ?_) hr⟩
      simp only [laws_markText.l0, hn, if_true, Option.bind_some, hz, hz2, e1, hw]
    · have hz : 1 + s.size ≤ 9223372036854775807 := by omega
      exact ⟨_, Ev.at_ (c := 1) (fun k => by simp only [laws_markText.l0, hn, if_false, hz, if_true]; rfl)⟩
theorem markTexts : ∃ mt : Int → ByteArray, ∀ n, 0 ≤ n → n ≤ 1000000000 → Ev (fun k => laws_markText.f k n) (mt n) := by
  have h : ∀ n : Int, ∃ s, 0 ≤ n → n ≤ 1000000000 → Ev (fun k => laws_markText.f k n) s := by
    intro n
    by_cases h0 : 0 ≤ n ∧ n ≤ 1000000000
    · by_cases h1 : n ≤ 0
      · exact ⟨_, fun _ _ => Ev.at_ (c := 0) (fun k => by unfold laws_markText.f; rw [if_pos h1])⟩
      · obtain ⟨s, hs⟩ := markText_l0 10 n (⟨#[]⟩ : ByteArray) h0.1 (by omega) (by omega) (by decide)
        exact ⟨s, fun _ _ => Ev.congr (fun k => by unfold laws_markText.f; rw [if_neg h1]) hs⟩
    · exact ⟨ByteArray.empty, fun a b => absurd ⟨a, b⟩ h0⟩
  exact ⟨fun n => Classical.choose (h n), fun n => Classical.choose_spec (h n)⟩
theorem ev_mark_loop {α : Type} {L : Nat → List α → Int → Int → Option (Int × List α)} {H : Nat → List α → Int → Int → Option Int} {mk : α → Int → α} {c : Int} (hc : 0 ≤ c)
    (stepL : ∀ (l : List α) (m : Int) (i : Nat) (hi : i < l.length), l.length ≤ 1048576 → 0 ≤ m → m ≤ 900000000 → ∀ r, Ev (fun k => L k (l.set i (mk l[i] m)) (m + c) ((i + 1 : Nat) : Int)) r → Ev (fun k => L k l m (i : Int)) r)
    (stepH : ∀ (l : List α) (m : Int) (i : Nat) (hi : i < l.length) (y : α), l[i] = mk y m → l.length ≤ 1048576 → 0 ≤ m → m ≤ 900000000 → ∀ r, Ev (fun k => H k l (m + c) ((i + 1 : Nat) : Int)) r → Ev (fun k => H k l m (i : Int)) r)
    (doneL : ∀ (l : List α) (m : Int) k, L (k + 1) l m (l.length : Int) = some (m, l)) (doneH : ∀ (l : List α) (m : Int) k, H (k + 1) l m (l.length : Int) = some m)
    (l : List α) (m : Int) (hl : l.length ≤ 1048576) (h0 : 0 ≤ m) (hm : m + c * l.length ≤ 900000000) :
    ∃ l', l'.length = l.length ∧ Ev (fun k => L k l m 0) (m + c * l.length, l') ∧ Ev (fun k => H k l' m 0) (m + c * l.length) := by
  have key : ∀ (d i : Nat) (l : List α) (m : Int), i + d = l.length → l.length ≤ 1048576 → 0 ≤ m → m + c * d ≤ 900000000 →
      ∃ l', l'.length = l.length ∧ l'.take i = l.take i ∧ Ev (fun k => L k l m (i : Int)) (m + c * d, l') ∧ Ev (fun k => H k l' m (i : Int)) (m + c * d) := by
    intro d
    induction d with
    | zero =>
      intro i l m hi hl h0 hm
      obtain rfl : i = l.length := by omega
      refine ⟨l, rfl, rfl, ?_, ?_⟩
      · simp only [Int.natCast_zero, Int.mul_zero, Int.add_zero]
        exact Ev.at_ (c := 1) (doneL l m)
      · simp only [Int.natCast_zero, Int.mul_zero, Int.add_zero]
        exact Ev.at_ (c := 1) (doneH l m)
    | succ d ih =>
      intro i l m hi hl h0 hm
      have hil : i < l.length := by omega
      have e : m + c + c * (d : Int) = m + c * ((d + 1 : Nat) : Int) := by
        rw [Int.natCast_add, Int.natCast_one, Int.mul_add, Int.mul_one]
        omega
      have hcd : 0 ≤ c * (d : Int) := Int.mul_nonneg hc (Int.natCast_nonneg d)
      obtain ⟨l', hl', ht, hL, hH⟩ := ih (i + 1) (l.set i (mk l[i] m)) (m + c) (by rw [List.length_set]; omega) (by rw [List.length_set]; omega) (by omega) (by omega)
      rw [List.length_set] at hl'
      rw [e] at hL hH
      have hg : l'[i]'(by omega) = mk l[i] m := by
        have h1 : (l'.take (i + 1))[i]'(by rw [List.length_take]; omega) = ((l.set i (mk l[i] m)).take (i + 1))[i]'(by rw [List.length_take, List.length_set]; omega) := by simp only [ht]
        simpa using h1
      refine ⟨l', hl', ?_, stepL l m i hil hl h0 (by omega) _ hL, stepH l' m i (by omega) l[i] hg (by omega) h0 (by omega) _ hH⟩
      have h2 := congrArg (List.take i) ht
      rw [List.take_take, List.take_take, Nat.min_eq_left (by omega)] at h2
      rw [h2, List.take_set_of_le (Nat.le_refl _)]
  obtain ⟨l', h1, _, h3, h4⟩ := key l.length 0 l m (by omega) hl h0 hm
  exact ⟨l', h1, h3, h4⟩
end Go.Proofs.Ytjkddaokhmflbaa.Q
end

section
namespace Go.Proofs.Ytjkddaokhmflbaa.Q
open Go.RowKit Go.Proofs.YtjkddaokhmflbaaW.PrintWords Go.Proofs.YtjkddaokhmflbaaW.PrintLast
set_option linter.unusedVariables false
set_option linter.unusedSimpArgs false
theorem markEntryS_ev (l : List S74) (m : Int) (hl : l.length ≤ 1048576) (h0 : 0 ≤ m) (hm : m + 2 * l.length ≤ 900000000) :
    ∃ l', l'.length = l.length ∧ Ev (fun k => laws_markEntryS.f k l m) (m + 2 * l.length, l') ∧ Ev (fun k => laws_heldEntryS.f k l' m) (m + 2 * l.length) := by
  obtain ⟨mt, hmt⟩ := markTexts
  have rd0 : ∀ (l : List S74) (i : Nat) (h : i < l.length), rd_T74 l (i : Int) = l[i] := fun l i h => by simp [rd_T74, List.getD_eq_getElem?_getD, List.getElem?_eq_getElem h]
  have rd1 : ∀ (l : List S74) (i : Nat) (v : S74) (h : i < l.length), rd_T74 (l.set i v) (i : Int) = v := fun l i v h => by rw [rd0 _ _ (by rw [List.length_set]; exact h)]; simp
  refine ev_mark_loop (L := laws_markEntryS.l0) (H := laws_heldEntryS.l0) (mk := fun x m => ⟨mt (m), m + 1⟩) (c := 2) (by omega) ?_ ?_ ?_ ?_ l m hl h0 hm
  · intro l m i hi hl h0 hm r hr
    have c1 : (i : Int) < (l.length : Int) := by omega
    have w := wrap_i (show i < 4611686018427387904 by omega)
    have w1 : wrap64 (m + 1) = m + 1 := by unfold wrap64; omega
    have w2 : wrap64 (m + 1 + 1) = m + 2 := by unfold wrap64; omega
    refine Ev.succ (g := fun k => laws_markEntryS.l0 k l m (i : Int)) ?_
    simp only [laws_markEntryS.l0, c1, if_true, Int.natCast_nonneg, Option.bind_some, Int.toNat_natCast, rd0 l i hi, rd1 l i _ hi, List.set_set, w, w1, w2]
    refine Ev.bind (hmt (m) (by omega) (by omega)) ?_
    (try simp only [if_true, rd0 l i hi, rd1 l i _ hi, List.set_set, Option.bind_some, w1, w2, bne_self_eq_false, Bool.false_eq_true, if_false])
    exact hr
  · intro l m i hi y hy hl h0 hm r hr
    have c1 : (i : Int) < (l.length : Int) := by omega
    have w := wrap_i (show i < 4611686018427387904 by omega)
    have w1 : wrap64 (m + 1) = m + 1 := by unfold wrap64; omega
    have w2 : wrap64 (m + 1 + 1) = m + 2 := by unfold wrap64; omega
    refine Ev.succ (g := fun k => laws_heldEntryS.l0 k l m (i : Int)) ?_
    simp only [laws_heldEntryS.l0, c1, if_true, Int.natCast_nonneg, rd0 l i hi, hy, w, w1, w2, bne_self_eq_false, Bool.false_eq_true, if_false]
    refine Ev.bind (hmt (m) (by omega) (by omega)) ?_
    (try simp only [if_true, rd0 l i hi, rd1 l i _ hi, List.set_set, Option.bind_some, w1, w2, bne_self_eq_false, Bool.false_eq_true, if_false])
    exact hr
  · intro l m k
    simp only [laws_markEntryS.l0]
    rw [if_neg (by omega)]
  · intro l m k
    simp only [laws_heldEntryS.l0]
    rw [if_neg (by omega)]
end Go.Proofs.Ytjkddaokhmflbaa.Q
end

section
namespace Go.Proofs.Ytjkddaokhmflbaa.Q
open Go.RowKit Go.Proofs.YtjkddaokhmflbaaW.PrintWords Go.Proofs.YtjkddaokhmflbaaW.PrintLast
set_option linter.unusedVariables false
set_option linter.unusedSimpArgs false
theorem markRefS_ev (l : List S79) (m : Int) (hl : l.length ≤ 1048576) (h0 : 0 ≤ m) (hm : m + 4 * l.length ≤ 900000000) :
    ∃ l', l'.length = l.length ∧ Ev (fun k => laws_markRefS.f k l m) (m + 4 * l.length, l') ∧ Ev (fun k => laws_heldRefS.f k l' m) (m + 4 * l.length) := by
  obtain ⟨mt, hmt⟩ := markTexts
  have rd0 : ∀ (l : List S79) (i : Nat) (h : i < l.length), rd_T79 l (i : Int) = l[i] := fun l i h => by simp [rd_T79, List.getD_eq_getElem?_getD, List.getElem?_eq_getElem h]
  have rd1 : ∀ (l : List S79) (i : Nat) (v : S79) (h : i < l.length), rd_T79 (l.set i v) (i : Int) = v := fun l i v h => by rw [rd0 _ _ (by rw [List.length_set]; exact h)]; simp
  refine ev_mark_loop (L := laws_markRefS.l0) (H := laws_heldRefS.l0) (mk := fun x m => ⟨mt (m), m + 1, m + 2, (Int.tmod (m + 3) 3 == 0)⟩) (c := 4) (by omega) ?_ ?_ ?_ ?_ l m hl h0 hm
  · intro l m i hi hl h0 hm r hr
    have c1 : (i : Int) < (l.length : Int) := by omega
    have w := wrap_i (show i < 4611686018427387904 by omega)
    have w1 : wrap64 (m + 1) = m + 1 := by unfold wrap64; omega
    have w2 : wrap64 (m + 1 + 1) = m + 2 := by unfold wrap64; omega
    have w3 : wrap64 (m + 2 + 1) = m + 3 := by unfold wrap64; omega
    have w4 : wrap64 (m + 3 + 1) = m + 4 := by unfold wrap64; omega
    refine Ev.succ (g := fun k => laws_markRefS.l0 k l m (i : Int)) ?_
    simp only [laws_markRefS.l0, c1, if_true, Int.natCast_nonneg, Option.bind_some, Int.toNat_natCast, rd0 l i hi, rd1 l i _ hi, List.set_set, w, w1, w2, w3, w4]
    refine Ev.bind (hmt (m) (by omega) (by omega)) ?_
    (try simp only [if_true, rd0 l i hi, rd1 l i _ hi, List.set_set, Option.bind_some, w1, w2, w3, w4, bne_self_eq_false, Bool.false_eq_true, if_false])
    exact hr
  · intro l m i hi y hy hl h0 hm r hr
    have c1 : (i : Int) < (l.length : Int) := by omega
    have w := wrap_i (show i < 4611686018427387904 by omega)
    have w1 : wrap64 (m + 1) = m + 1 := by unfold wrap64; omega
    have w2 : wrap64 (m + 1 + 1) = m + 2 := by unfold wrap64; omega
    have w3 : wrap64 (m + 2 + 1) = m + 3 := by unfold wrap64; omega
    have w4 : wrap64 (m + 3 + 1) = m + 4 := by unfold wrap64; omega
    refine Ev.succ (g := fun k => laws_heldRefS.l0 k l m (i : Int)) ?_
    simp only [laws_heldRefS.l0, c1, if_true, Int.natCast_nonneg, rd0 l i hi, hy, w, w1, w2, w3, w4, bne_self_eq_false, Bool.false_eq_true, if_false]
    refine Ev.bind (hmt (m) (by omega) (by omega)) ?_
    (try simp only [if_true, rd0 l i hi, rd1 l i _ hi, List.set_set, Option.bind_some, w1, w2, w3, w4, bne_self_eq_false, Bool.false_eq_true, if_false])
    exact hr
  · intro l m k
    simp only [laws_markRefS.l0]
    rw [if_neg (by omega)]
  · intro l m k
    simp only [laws_heldRefS.l0]
    rw [if_neg (by omega)]
end Go.Proofs.Ytjkddaokhmflbaa.Q
end

section
namespace Go.Proofs.Ytjkddaokhmflbaa.Pure
open Go.RowKit Go.Proofs.Ytjkddaokhmflbaa.Q Go.Proofs.YtjkddaokhmflbaaW.PrintWords Go.Proofs.YtjkddaokhmflbaaW.PrintLast
set_option linter.unusedSimpArgs false
theorem nbInt (l : List Int) (h : l = []) : Ev (fun k => laws_eqIntS.f k l l) true := by
  subst h
  refine Ev.congr (f := fun k => laws_eqIntS.l0 k [] [] 0) (fun k => by unfold laws_eqIntS.f; rw [if_pos rfl]) (Ev.succ ?_)
  exact Ev.now _
theorem nbCommit (l : List S25) (h : l.length ≤ 1) (hf : ∀ x, x ∈ l → x.f0 = [] ∧ x.f1.length ≤ 1048576) : Ev (fun k => laws_eqCommitS.f k l l) true := by
  refine Ev.congr (f := fun k => laws_eqCommitS.l0 k l l 0) (fun k => ?_) ?_
  · unfold laws_eqCommitS.f
    rw [if_pos rfl]
  · exact ev_refl_loop (L := laws_eqCommitS.l0) (g := fun k x y => laws_eqCommit.f k x.f0 x.f1 y.f0 y.f1) (z := z25) (fun _ _ _ _ => rfl) l (by omega) (fun x hx => by
      unfold laws_eqCommit.f
      refine Ev.bind (nbInt _ (hf x hx).1) ?_
      simp only [if_true]
      refine Ev.bind (eqEntryS_ev _ (hf x hx).2) ?_
      simp only [if_true]
      exact Ev.now _)
theorem nbRef1 (x : S79) : laws_eqRef.f x.f0 x.f1 x.f2 x.f3 x.f0 x.f1 x.f2 x.f3 = some true := by
  unfold laws_eqRef.f
  simp
theorem nbRef (l : List S79) (h : l.length ≤ 1) : Ev (fun k => laws_eqRefS.f k l l) true := by
  refine Ev.congr (f := fun k => laws_eqRefS.l0 k l l 0) (fun k => ?_) ?_
  · unfold laws_eqRefS.f
    rw [if_pos rfl]
  · exact ev_refl_loop (L := laws_eqRefS.l0) (g := fun _ x y => laws_eqRef.f x.f0 x.f1 x.f2 x.f3 y.f0 y.f1 y.f2 y.f3) (z := z79) (fun _ _ _ _ => rfl) l (by omega) (fun x _ => Ev.congr (fun _ => nbRef1 x) (Ev.now _))
theorem nbBase (a : List S25) (b : List S79) (h : a.length ≤ 1) (hf : ∀ x, x ∈ a → x.f0 = [] ∧ x.f1.length ≤ 1048576) (hb : b.length ≤ 1) : Ev (fun k => laws_eqBase.f k a b a b) true := by
  unfold laws_eqBase.f
  refine Ev.bind (nbCommit a h hf) ?_
  simp only [if_true]
  refine Ev.bind (nbRef b hb) ?_
  simp only [if_true]
  exact Ev.now _
def nbRes (v : List S74) : List S25 × List S79 × Int :=
  if v.length ≤ 4096 then (if mapB v = true then ([⟨[], v⟩], [⟨(⟨#[109, 97, 105, 110]⟩ : ByteArray), 1, 1, false⟩], 0) else ([], [], 1)) else ([], [], 2)
theorem nbSpec (v : List S74) : spec_NewBase.f v = some (nbRes v) := by
  unfold spec_NewBase.f nbRes spec_l01OK.f
  by_cases h : v.length ≤ 4096
  · rw [if_neg (by omega), if_pos h]
    simp only [Option.bind_some]
    by_cases h2 : mapB v = true
    · rw [if_pos h2, if_pos h2]
      unfold spec_l05New.f
      simp only [Option.bind_some, List.length_nil, Nat.zero_add, List.nil_append]
      rw [if_pos (by omega)]
      rfl
    · rw [if_neg h2, if_neg h2]
  · rw [if_pos (by omega), if_neg h]
theorem nbImpl (v : List S74) : impl_NewBase.f v = some (nbRes v) := by
  unfold impl_NewBase.f nbRes impl_areMaps.f areAllMap_isList.f
  by_cases h : v.length ≤ 4096
  · rw [if_pos h]
    have e : [v].all (fun x => decide (x.length ≤ 4096)) = true := by simp [h]
    rw [e]
    unfold areAllMap_MapOK.f
    have e2 : [v].all (fun x => decide (x.length ≤ 1048576)) = true := by
      simp only [List.all_cons, List.all_nil, Bool.and_true, decide_eq_true_eq]
      omega
    have e3 : [v].all mapB = mapB v := by simp only [List.all_cons, List.all_nil, Bool.and_true]
    rw [e2, e3]
    simp only [Option.bind_some, if_true]
    by_cases h2 : mapB v = true
    · simp only [h2, if_true, Option.bind_some]
      unfold impl_Entry_44.f
      rw [if_pos (by omega)]
      rfl
    · simp only [h2, Option.bind_some, Bool.false_eq_true, if_false]
      rfl
  · rw [if_neg h]
    have e : [v].all (fun x => decide (x.length ≤ 4096)) = false := by
      simp only [List.all_cons, List.all_nil, Bool.and_true, decide_eq_false_iff_not]
      exact h
    rw [e]
    simp only [Option.bind_some, Bool.false_eq_true, if_false]
    rfl
theorem nbShape (v : List S74) : (nbRes v).2.1.length ≤ 1 ∧ ((nbRes v).1 = [] ∨ (v.length ≤ 4096 ∧ (nbRes v).1 = [⟨[], v⟩])) := by
  unfold nbRes
  by_cases h : v.length ≤ 4096
  · rw [if_pos h]
    by_cases h2 : mapB v = true
    · rw [if_pos h2]
      exact ⟨Nat.le_refl _, .inr ⟨h, rfl⟩⟩
    · rw [if_neg h2]
      exact ⟨Nat.zero_le _, .inl rfl⟩
  · rw [if_neg h]
    exact ⟨Nat.zero_le _, .inl rfl⟩
theorem nbMarkInt : Ev (fun k => laws_markIntS.f k [] 1) (1, []) := Ev.at_ (c := 1) (fun _ => rfl)
theorem nbHeldInt : Ev (fun k => laws_heldIntS.f k [] 1) 1 := Ev.at_ (c := 1) (fun _ => rfl)
theorem nbMarkC (v : List S74) (C : List S25) (hC : C = [] ∨ (v.length ≤ 4096 ∧ C = [⟨[], v⟩])) : ∃ (m : Int) (C2 : List S25), 0 ≤ m ∧ m ≤ 10000 ∧ Ev (fun k => laws_markCommitS.f k C 1) (m, C2) ∧ Ev (fun k => laws_heldCommitS.f k C2 1) m := by
  rcases hC with rfl | ⟨hv, rfl⟩
  · exact ⟨1, [], by omega, by omega, Ev.at_ (c := 0) (fun _ => rfl), Ev.at_ (c := 1) (fun _ => rfl)⟩
  · obtain ⟨l2, _, h1, h2⟩ := markEntryS_ev v 1 (by omega) (by omega) (by omega)
    refine ⟨1 + 2 * v.length, [⟨[], l2⟩], by omega, by omega, ?_, ?_⟩
    · exact Ev.bind nbMarkInt (Ev.bind h1 (Ev.bind (a := (1 + 2 * (v.length : Int), ([] : List S25))) (Ev.at_ (c := 0) (fun _ => rfl)) (Ev.now _)))
    · have n1 : (0 : Int) < (([⟨[], l2⟩] : List S25).length : Int) := by simp
      have n2 : ¬ (1 + 2 * (v.length : Int) < 0) := by omega
      have n3 : ¬ ((1 : Int) < 0) := by decide
      have w : wrap64 (0 + 1) = 1 := by unfold wrap64; omega
      have e : rd_T25 [⟨[], l2⟩] 0 = ⟨[], l2⟩ := rfl
      refine Ev.succ (g := fun k => laws_heldCommitS.f k [⟨[], l2⟩] 1) ?_
      simp only [laws_heldCommitS.f, laws_heldCommitS.l0, n1, if_true, Int.le_refl, w, e]
      refine Ev.bind nbHeldInt ?_
      simp only [n3, if_false]
      refine Ev.bind h2 ?_
      simp only [n2, if_false]
      exact Ev.at_ (c := 1) (fun _ => rfl)
theorem nbMark (v : List S74) (C : List S25) (R : List S79) (hR : R.length ≤ 1) (hC : C = [] ∨ (v.length ≤ 4096 ∧ C = [⟨[], v⟩])) :
    ∃ (m : Int) (C2 : List S25) (R2 : List S79), 0 ≤ m ∧ Ev (fun k => laws_markBase.f k C R 1) (m, C2, R2) ∧ Ev (fun k => laws_heldBase.f k C2 R2 1) m := by
  obtain ⟨m, C2, h0, h1, hm, hh⟩ := nbMarkC v C hC
  obtain ⟨R2, _, hm2, hh2⟩ := markRefS_ev R m (by omega) h0 (by omega)
  refine ⟨m + 4 * R.length, C2, R2, by omega, ?_, ?_⟩
  · unfold laws_markBase.f
    exact Ev.bind hm (Ev.bind hm2 (Ev.now _))
  · unfold laws_heldBase.f
    have n1 : ¬ (m < 0) := by omega
    have n2 : ¬ (m + 4 * (R.length : Int) < 0) := by omega
    refine Ev.bind hh ?_
    simp only [n1, if_false]
    refine Ev.bind hh2 ?_
    simp only [n2, if_false]
    exact Ev.now _
theorem FnExactNewBase : laws_FnExactNewBase.Pure := by
  intro l0 w0
  refine Ev.rounds ?_
  unfold laws_FnExactNewBase.f
  obtain ⟨r, hr, hrl, hrs⟩ := szEntryS_ev l0 w0.1 w0.2 1048576 (by omega) (by omega)
  refine Ev.bind hr ?_
  by_cases hn : r < 0
  · simp only [hn, if_true]
    exact Ev.now _
  simp only [hn, if_false]
  have hl := hrs (by omega)
  have hl2 : (l0.map cvEntry).length ≤ 1048576 := by simpa using hl
  refine Ev.bind (toEntryS_ev l0 hl) ?_
  generalize l0.map cvEntry = v at hl2
  obtain ⟨hR, hC⟩ := nbShape v
  have hE : Ev (fun k => laws_eqBase.f k (nbRes v).1 (nbRes v).2.1 (nbRes v).1 (nbRes v).2.1) true := by
    refine nbBase _ _ ?_ ?_ hR
    · rcases hC with h | ⟨_, h⟩ <;> rw [h] <;> simp
    · rcases hC with h | ⟨h3, h⟩
      · rw [h]
        simp
      · rw [h]
        intro x hx
        simp only [List.mem_singleton] at hx
        subst hx
        exact ⟨rfl, by show v.length ≤ _; omega⟩
  obtain ⟨m, C2, R2, h0, hm, hh⟩ := nbMark v _ _ hR hC
  obtain ⟨la, _, hmA, _⟩ := markEntryS_ev v 1 hl2 (by omega) (by omega)
  rw [nbSpec, nbImpl]
  simp only [Option.bind_some]
  refine Ev.bind hE (Ev.bind (eqEntryS_ev v hl2) (Ev.bind hmA (Ev.bind hm (Ev.bind hh ?_))))
  rw [if_pos ⟨rfl, trivial, rfl, by show (0 : Int) ≤ _; omega, rfl, h0⟩]
  exact Ev.now _
end Go.Proofs.Ytjkddaokhmflbaa.Pure
end
