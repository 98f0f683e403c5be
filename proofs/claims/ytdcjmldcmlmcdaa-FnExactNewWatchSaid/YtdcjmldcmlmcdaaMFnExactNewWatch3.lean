/- Parts of the proof of the law FnExactNewWatch, joined into one text. -/
import Derived.Test.YtdcjmldcmlmcdaaMFnExactNewWatch2
section
namespace Go.Proofs.Ytdcjmldcmlmcdaa.Q
open Go.RowKit Go.Proofs.YtdcjmldcmlmcdaaW.PrintWords Go.Proofs.YtdcjmldcmlmcdaaW.PrintLast Go.Proofs.YtdcjmldcmlmcdaaW.PrintMore
attribute [local go_sem] max2_int min2_int max_two min_two max_three min_three max_four min_four   -- for this text's walks alone
set_option linter.unusedVariables false
set_option linter.unusedSimpArgs false
attribute [local go_sem] bin_leq bin_gtr bin_geq
def laws_heldWatch.f (k : Nat) (a0_0 : ByteArray) (a0_1 : Int) (l0_2 : List (S73)) (a1 : Int) : Option (Int) := (laws_heldEventS.f k l0_2 a1).bind fun t195 => (if t195 < 0 then (some (-1)) else (some t195))
set_option maxHeartbeats 8000000 in
set_option maxRecDepth 100000 in
theorem laws_heldWatch.calls (k : Nat) (a0_0 : ByteArray) (a0_1 : Int) (A0_2 : Option Addr) (c0_2 : Nat) (l0_2 : List (S73)) (a1 : Int) (r : Int) (w : World) (hr0_2 : Kd.C k73 w A0_2 l0_2.length l0_2) (hc0_2 : l0_2.length ≤ c0_2) (h : laws_heldWatch.f k a0_0 a0_1 l0_2 a1 = some r) :
    Calls Try.prog 13 #[.agg #[.string a0_0, .int .i64 a0_1, .slice A0_2 l0_2.length c0_2], .int .i64 a1] w fun e w' => e = .returned (.int .i64 r) ∧ Below w.heap.size w w' := by
  have hu26 := Try.underlying26
  have HR0_2 := Aside0.mk hr0_2
  have HC0_2 := Aside0.mk hc0_2
  clear hr0_2 hc0_2
  have HB := Aside0.mk (Below.refl w.heap.size w)
  have H : ((laws_heldEventS.f k l0_2 a1).bind fun t195 => (if t195 < 0 then (some (-1)) else (some t195))) = some r := h
  clear h
  replace H := Option.bind_eq_some_iff.mp H
  obtain ⟨t195, A30, H⟩ := H
  replace H : (if t195 < 0 then (some (-1)) else (some t195)) = some r := H
  have A3 := Aside0.mk A30
  clear A30
  by_cases c4 : t195 < 0
  · rw [if_pos c4] at H
    have c4b0 : decide (t195 < 0) = true := decide_eq_true c4
    clear c4
    obtain rfl := Option.some.inj H
    go_enter Try.func13, Try.ntmps13
    go_wp2_with (first | ((with_reducible refine gate_dst (N := 2) rfl ?_); refine box_event ?hg (N := 2) ?hd (cs := #[.string a0_0, .int .i64 a0_1, .slice A0_2 l0_2.length c0_2]) (t := 26) ?hr ?_; (case hd => rfl); (case hg => rfl); (case hr => first | (go_simp; done) | (go_simp; rfl)); intro gb194 hg w5 hbox hb; have n0_ := Aside0.mk (below_step (by repeat (first | (with_reducible first | exact HB.out | apply below_alloc | apply pw_below_drewN | apply below_drew1) | exact HB.out)) hb); have n1_ := Aside0.mk (hbox); have n2_ := Aside0.mk ((by rw [hg]; exact (below_size (by repeat (first | (with_reducible first | exact HB.out | apply below_alloc | apply pw_below_drewN | apply below_drew1) | exact HB.out))) : w.heap.size ≤ gb194)); have n3_ := Aside0.mk ((by rw [hg]; exact (below_size (by repeat (first | (with_reducible first | exact HB.out | apply below_alloc | apply pw_below_drewN | apply below_drew1) | exact HB.out))) : w.heap.size ≤ gb194)); clear HB; have HB := n0_; have BK194 := n1_; have GW194 := n2_; have GE194 := n3_; clear n0_ n1_ n2_ n3_; clear hb hbox hg; have hcz6_0 : w5.cell? ⟨gb194, 0, none⟩ = some (.string a0_0) := (blk_cell BK194.out 0).trans rfl; have hcz6_1 : w5.cell? ⟨gb194, 1, none⟩ = some (.int .i64 a0_1) := (blk_cell BK194.out 1).trans rfl; have hcz6_2 : w5.cell? ⟨gb194, 2, none⟩ = some (.slice A0_2 l0_2.length c0_2) := (blk_cell BK194.out 2).trans rfl; have hfz6_0 := blk_frozen BK194.out 0; have hfz6_1 := blk_frozen BK194.out 1; have hfz6_2 := blk_frozen BK194.out 2) | ((with_reducible refine gate_callee (f := 31) rfl ?_); refine goesL_ (some 8) rfl rfl Try.func31 (by kernel_rfl) rfl #[.slice A0_2 l0_2.length c0_2, .int .i64 a1] rfl (by (try simp only [List.map_toArray, List.map_cons, List.map_nil]); first | done | rfl | (simp only [List.length_drop, List.length_take]; rfl)) ?_; (with_reducible refine (laws_heldEventS.calls k _ _ l0_2 a1 t195 _ ?side1 ?side2 A3.out).mono ?_); (case side1 => repeat (first | exact (Kd.C_below HR0_2.out HB.out) | (with_reducible refine Kd.C_alloc ?_ _) | (with_reducible refine Kd.C_drewN ?_ _) | (with_reducible refine Kd.C_drew ?_))); (case side2 => exact HC0_2.out); rintro e w' ⟨rfl, ⟨nd, rfl⟩⟩; refine ⟨_, rfl, ?_⟩))
    go_ret
    exact ⟨by first | rfl | (simp [errW_none, errW_some] <;> rfl) | (simp [*, errW_none, errW_some] <;> rfl), by repeat (first | (with_reducible first | exact HB.out | apply below_alloc | apply pw_below_drewN | apply below_drew1 | refine below_set ?_ GE194.out) | exact HB.out)⟩
  · rw [if_neg c4] at H
    have c4b0 : decide (t195 < 0) = false := decide_eq_false c4
    clear c4
    obtain rfl := Option.some.inj H
    go_enter Try.func13, Try.ntmps13
    go_wp2_with (first | ((with_reducible refine gate_dst (N := 2) rfl ?_); refine box_event ?hg (N := 2) ?hd (cs := #[.string a0_0, .int .i64 a0_1, .slice A0_2 l0_2.length c0_2]) (t := 26) ?hr ?_; (case hd => rfl); (case hg => rfl); (case hr => first | (go_simp; done) | (go_simp; rfl)); intro gb194 hg w7 hbox hb; have n0_ := Aside0.mk (below_step (by repeat (first | (with_reducible first | exact HB.out | apply below_alloc | apply pw_below_drewN | apply below_drew1) | exact HB.out)) hb); have n1_ := Aside0.mk (hbox); have n2_ := Aside0.mk ((by rw [hg]; exact (below_size (by repeat (first | (with_reducible first | exact HB.out | apply below_alloc | apply pw_below_drewN | apply below_drew1) | exact HB.out))) : w.heap.size ≤ gb194)); have n3_ := Aside0.mk ((by rw [hg]; exact (below_size (by repeat (first | (with_reducible first | exact HB.out | apply below_alloc | apply pw_below_drewN | apply below_drew1) | exact HB.out))) : w.heap.size ≤ gb194)); clear HB; have HB := n0_; have BK194 := n1_; have GW194 := n2_; have GE194 := n3_; clear n0_ n1_ n2_ n3_; clear hb hbox hg; have hcz8_0 : w7.cell? ⟨gb194, 0, none⟩ = some (.string a0_0) := (blk_cell BK194.out 0).trans rfl; have hcz8_1 : w7.cell? ⟨gb194, 1, none⟩ = some (.int .i64 a0_1) := (blk_cell BK194.out 1).trans rfl; have hcz8_2 : w7.cell? ⟨gb194, 2, none⟩ = some (.slice A0_2 l0_2.length c0_2) := (blk_cell BK194.out 2).trans rfl; have hfz8_0 := blk_frozen BK194.out 0; have hfz8_1 := blk_frozen BK194.out 1; have hfz8_2 := blk_frozen BK194.out 2) | ((with_reducible refine gate_callee (f := 31) rfl ?_); refine goesL_ (some 8) rfl rfl Try.func31 (by kernel_rfl) rfl #[.slice A0_2 l0_2.length c0_2, .int .i64 a1] rfl (by (try simp only [List.map_toArray, List.map_cons, List.map_nil]); first | done | rfl | (simp only [List.length_drop, List.length_take]; rfl)) ?_; (with_reducible refine (laws_heldEventS.calls k _ _ l0_2 a1 t195 _ ?side1 ?side2 A3.out).mono ?_); (case side1 => repeat (first | exact (Kd.C_below HR0_2.out HB.out) | (with_reducible refine Kd.C_alloc ?_ _) | (with_reducible refine Kd.C_drewN ?_ _) | (with_reducible refine Kd.C_drew ?_))); (case side2 => exact HC0_2.out); rintro e w' ⟨rfl, ⟨nd, rfl⟩⟩; refine ⟨_, rfl, ?_⟩))
    go_ret
    exact ⟨by first | rfl | (simp [errW_none, errW_some] <;> rfl) | (simp [*, errW_none, errW_some] <;> rfl), by repeat (first | (with_reducible first | exact HB.out | apply below_alloc | apply pw_below_drewN | apply below_drew1 | refine below_set ?_ GE194.out) | exact HB.out)⟩
end Go.Proofs.Ytdcjmldcmlmcdaa.Q
end

section
namespace Go.Proofs.Ytdcjmldcmlmcdaa.Q
open Go.RowKit Go.Proofs.YtdcjmldcmlmcdaaW.PrintWords Go.Proofs.YtdcjmldcmlmcdaaW.PrintLast Go.Proofs.YtdcjmldcmlmcdaaW.PrintMore
attribute [local go_sem] max2_int min2_int max_two min_two max_three min_three max_four min_four   -- for this text's walks alone
set_option linter.unusedVariables false
set_option linter.unusedSimpArgs false
attribute [local go_sem] bin_leq bin_gtr bin_geq
mutual
def laws_FnExactNewWatch.j0 : Nat → List (S44) → ByteArray → Int → List (S48) → Int → Bool → ByteArray → Int → List (S73) → ByteArray → Int → List (S73) → Option (Bool)
  | 0, _, _, _, _, _, _, _, _, _, _, _, _ => none
  | k + 1, x0, x1, x7, x8, x10, x47, x207000, x207001, x207002, x217000, x217001, x217002 => if x47 = true then (some false) else ((laws_toRefS.f k x0).bind fun t218 => ((laws_eqRefS.f k x8 t218).bind fun t221 => (if t221 = true then ((laws_markRefS.f k x8 1).bind fun bt222 => (if bt222.1 < 0 then (laws_FnExactNewWatch.j1 k x0 x1 x7 true x207000 x207001 x207002 x217000 x217001 x217002) else ((laws_eqWatch.f k x217000 x217001 x217002 x207000 x207001 x207002).bind fun t224 => (if t224 = true then (laws_FnExactNewWatch.j1 k x0 x1 x7 (x10 != x7) x207000 x207001 x207002 x217000 x217001 x217002) else (laws_FnExactNewWatch.j1 k x0 x1 x7 true x207000 x207001 x207002 x217000 x217001 x217002))))) else (some false))))
def laws_FnExactNewWatch.j1 : Nat → List (S44) → ByteArray → Int → Bool → ByteArray → Int → List (S73) → ByteArray → Int → List (S73) → Option (Bool)
  | 0, _, _, _, _, _, _, _, _, _, _ => none
  | k + 1, x0, x1, x7, x68, x207000, x207001, x207002, x217000, x217001, x217002 => if x68 = true then (some false) else ((laws_markWatch.f k x217000 x217001 x217002 1).bind fun bt225 => ((laws_heldWatch.f k x217000 x217001 bt225.2 1).bind fun t227 => (if t227 < 0 then (some false) else (if t227 = bt225.1 then ((laws_toRefS.f k x0).bind fun t228 => ((impl_NewWatch.f k t228 x1).bind fun bt231 => ((laws_eqWatch.f k bt231.1 bt231.2.1 bt231.2.2.1 x207000 x207001 x207002).bind fun t238 => (if t238 = true then (laws_FnExactNewWatch.j2 k bt225.1 (bt231.2.2.2 != x7) x217000 x217001 bt225.2) else (laws_FnExactNewWatch.j2 k bt225.1 true x217000 x217001 bt225.2))))) else (some false)))))
def laws_FnExactNewWatch.j2 : Nat → Int → Bool → ByteArray → Int → List (S73) → Option (Bool)
  | 0, _, _, _, _, _ => none
  | k + 1, x12, x95, x217000, x217001, x217002 => if x95 = true then (some false) else ((laws_heldWatch.f k x217000 x217001 x217002 1).bind fun t239 => (if t239 < 0 then (some false) else (if t239 = x12 then (some true) else (some false))))
end
def laws_FnExactNewWatch.f (k : Nat) (l0 : List (S44)) (a1 : ByteArray) : Option (Bool) := if (a1.size : Int) > 1048576 then (some true) else ((laws_szRefS.f k l0 1048576).bind fun t196 => (if t196 < 0 then (some true) else ((laws_toRefS.f k l0).bind fun t197 => ((spec_NewWatch.f k t197 a1).bind fun bt200 => ((laws_toRefS.f k l0).bind fun t207 => ((impl_NewWatch.f k t207 a1).bind fun bt210 => ((laws_eqWatch.f k bt210.1 bt210.2.1 bt210.2.2.1 bt200.1 bt200.2.1 bt200.2.2.1).bind fun t217 => (if t217 = true then (laws_FnExactNewWatch.j0 k l0 a1 bt200.2.2.2 t207 bt210.2.2.2 (bt210.2.2.2 != bt200.2.2.2) bt200.1 bt200.2.1 bt200.2.2.1 bt210.1 bt210.2.1 bt210.2.2.1) else (laws_FnExactNewWatch.j0 k l0 a1 bt200.2.2.2 t207 bt210.2.2.2 true bt200.1 bt200.2.1 bt200.2.2.1 bt210.1 bt210.2.1 bt210.2.2.1)))))))))
set_option maxHeartbeats 8000000 in
set_option maxRecDepth 100000 in
theorem laws_FnExactNewWatch.calls (k : Nat) (A0 : Option Addr) (c0 : Nat) (l0 : List (S44)) (a1 : ByteArray) (w : World) (hr0 : Kd.C k44 w A0 l0.length l0) (hc0 : l0.length ≤ c0) (h : laws_FnExactNewWatch.f k l0 a1 = some true) :
    Calls Try.prog 3 #[.slice A0 l0.length c0, .string a1] w fun e w' => e = .returned (.bool true) ∧ Below w.heap.size w w' := by
  have hu26 := Try.underlying26
  have HR0 := Aside0.mk hr0
  have HC0 := Aside0.mk hc0
  clear hr0 hc0
  have HB := Aside0.mk (Below.refl w.heap.size w)
  have H : (if (a1.size : Int) > 1048576 then (some true) else ((laws_szRefS.f k l0 1048576).bind fun t196 => (if t196 < 0 then (some true) else ((laws_toRefS.f k l0).bind fun t197 => ((spec_NewWatch.f k t197 a1).bind fun bt200 => ((laws_toRefS.f k l0).bind fun t207 => ((impl_NewWatch.f k t207 a1).bind fun bt210 => ((laws_eqWatch.f k bt210.1 bt210.2.1 bt210.2.2.1 bt200.1 bt200.2.1 bt200.2.2.1).bind fun t217 => (if t217 = true then (laws_FnExactNewWatch.j0 k l0 a1 bt200.2.2.2 t207 bt210.2.2.2 (bt210.2.2.2 != bt200.2.2.2) bt200.1 bt200.2.1 bt200.2.2.1 bt210.1 bt210.2.1 bt210.2.2.1) else (laws_FnExactNewWatch.j0 k l0 a1 bt200.2.2.2 t207 bt210.2.2.2 true bt200.1 bt200.2.1 bt200.2.2.1 bt210.1 bt210.2.1 bt210.2.2.1)))))))))) = some true := h
  clear h
  by_cases c3 : (a1.size : Int) > 1048576
  · rw [if_pos c3] at H
    have c3b0 : decide (1048576 < (a1.size : Int)) = true := decide_eq_true c3
    have c3b1 : decide (1048576 < a1.size) = true := decide_eq_true (by omega)
    clear c3
    clear H
    go_enter Try.func3, Try.ntmps3
    go_wp2
    go_ret
    exact ⟨by first | rfl | (simp [errW_none, errW_some] <;> rfl) | (simp [*, errW_none, errW_some] <;> rfl), by repeat (first | (with_reducible first | exact HB.out | apply below_alloc | apply pw_below_drewN | apply below_drew1) | exact HB.out)⟩
  · rw [if_neg c3] at H
    have c3b0 : decide (1048576 < (a1.size : Int)) = false := decide_eq_false c3
    have c3b1 : decide (1048576 < a1.size) = false := decide_eq_false (by omega)
    clear c3
    replace H := Option.bind_eq_some_iff.mp H
    obtain ⟨t196, A40, H⟩ := H
    replace H : (if t196 < 0 then (some true) else ((laws_toRefS.f k l0).bind fun t197 => ((spec_NewWatch.f k t197 a1).bind fun bt200 => ((laws_toRefS.f k l0).bind fun t207 => ((impl_NewWatch.f k t207 a1).bind fun bt210 => ((laws_eqWatch.f k bt210.1 bt210.2.1 bt210.2.2.1 bt200.1 bt200.2.1 bt200.2.2.1).bind fun t217 => (if t217 = true then (laws_FnExactNewWatch.j0 k l0 a1 bt200.2.2.2 t207 bt210.2.2.2 (bt210.2.2.2 != bt200.2.2.2) bt200.1 bt200.2.1 bt200.2.2.1 bt210.1 bt210.2.1 bt210.2.2.1) else (laws_FnExactNewWatch.j0 k l0 a1 bt200.2.2.2 t207 bt210.2.2.2 true bt200.1 bt200.2.1 bt200.2.2.1 bt210.1 bt210.2.1 bt210.2.2.1)))))))) = some true := H
    have A4 := Aside0.mk A40
    clear A40
    by_cases c5 : t196 < 0
    · rw [if_pos c5] at H
      have c5b0 : decide (t196 < 0) = true := decide_eq_true c5
      clear c5
      clear H
      go_enter Try.func3, Try.ntmps3
      go_wp2_with (first | ((with_reducible refine gate_callee (f := 5) rfl ?_); refine goesL_ (some 21) rfl rfl Try.func5 (by kernel_rfl) rfl #[.slice A0 l0.length c0, .int .i64 1048576] rfl (by (try simp only [List.map_toArray, List.map_cons, List.map_nil]); first | done | rfl | (simp only [List.length_drop, List.length_take]; rfl)) ?_; (with_reducible refine (laws_szRefS.calls k _ _ l0 1048576 t196 _ ?side1 ?side2 A4.out).mono ?_); (case side1 => repeat (first | exact HR0.out | (with_reducible refine Kd.C_alloc ?_ _) | (with_reducible refine Kd.C_drewN ?_ _) | (with_reducible refine Kd.C_drew ?_))); (case side2 => exact HC0.out); rintro e w6 ⟨rfl, hb⟩; refine ⟨_, rfl, ?_⟩; have n0_ := Aside0.mk (below_step (by repeat (first | (with_reducible first | exact HB.out | apply below_alloc | apply pw_below_drewN | apply below_drew1) | exact HB.out)) hb); clear HB; have HB := n0_; clear n0_; (try clear hb); (try clear hb2); (try clear hk); (try clear hi)))
      go_ret
      exact ⟨by first | rfl | (simp [errW_none, errW_some] <;> rfl) | (simp [*, errW_none, errW_some] <;> rfl), by repeat (first | (with_reducible first | exact HB.out | apply below_alloc | apply pw_below_drewN | apply below_drew1) | exact HB.out)⟩
    · rw [if_neg c5] at H
      have c5b0 : decide (t196 < 0) = false := decide_eq_false c5
      clear c5
      replace H := Option.bind_eq_some_iff.mp H
      obtain ⟨t197, A70, H⟩ := H
      replace H : ((spec_NewWatch.f k t197 a1).bind fun bt200 => ((laws_toRefS.f k l0).bind fun t207 => ((impl_NewWatch.f k t207 a1).bind fun bt210 => ((laws_eqWatch.f k bt210.1 bt210.2.1 bt210.2.2.1 bt200.1 bt200.2.1 bt200.2.2.1).bind fun t217 => (if t217 = true then (laws_FnExactNewWatch.j0 k l0 a1 bt200.2.2.2 t207 bt210.2.2.2 (bt210.2.2.2 != bt200.2.2.2) bt200.1 bt200.2.1 bt200.2.2.1 bt210.1 bt210.2.1 bt210.2.2.1) else (laws_FnExactNewWatch.j0 k l0 a1 bt200.2.2.2 t207 bt210.2.2.2 true bt200.1 bt200.2.1 bt200.2.2.1 bt210.1 bt210.2.1 bt210.2.2.1)))))) = some true := H
      have A7 := Aside0.mk A70
      clear A70
      replace H := Option.bind_eq_some_iff.mp H
      obtain ⟨⟨t200, t201, t202, t205⟩, A80, H⟩ := H
      replace H : ((laws_toRefS.f k l0).bind fun t207 => ((impl_NewWatch.f k t207 a1).bind fun bt210 => ((laws_eqWatch.f k bt210.1 bt210.2.1 bt210.2.2.1 t200 t201 t202).bind fun t217 => (if t217 = true then (laws_FnExactNewWatch.j0 k l0 a1 t205 t207 bt210.2.2.2 (bt210.2.2.2 != t205) t200 t201 t202 bt210.1 bt210.2.1 bt210.2.2.1) else (laws_FnExactNewWatch.j0 k l0 a1 t205 t207 bt210.2.2.2 true t200 t201 t202 bt210.1 bt210.2.1 bt210.2.2.1))))) = some true := H
      have A8 := Aside0.mk A80
      clear A80
      replace H := Option.bind_eq_some_iff.mp H
      obtain ⟨t207, A90, H⟩ := H
      replace H : ((impl_NewWatch.f k t207 a1).bind fun bt210 => ((laws_eqWatch.f k bt210.1 bt210.2.1 bt210.2.2.1 t200 t201 t202).bind fun t217 => (if t217 = true then (laws_FnExactNewWatch.j0 k l0 a1 t205 t207 bt210.2.2.2 (bt210.2.2.2 != t205) t200 t201 t202 bt210.1 bt210.2.1 bt210.2.2.1) else (laws_FnExactNewWatch.j0 k l0 a1 t205 t207 bt210.2.2.2 true t200 t201 t202 bt210.1 bt210.2.1 bt210.2.2.1)))) = some true := H
      have A9 := Aside0.mk A90
      clear A90
      replace H := Option.bind_eq_some_iff.mp H
      obtain ⟨⟨t210, t211, t212, t215⟩, A100, H⟩ := H
      replace H : ((laws_eqWatch.f k t210 t211 t212 t200 t201 t202).bind fun t217 => (if t217 = true then (laws_FnExactNewWatch.j0 k l0 a1 t205 t207 t215 (t215 != t205) t200 t201 t202 t210 t211 t212) else (laws_FnExactNewWatch.j0 k l0 a1 t205 t207 t215 true t200 t201 t202 t210 t211 t212))) = some true := H
      have A10 := Aside0.mk A100
      clear A100
      have HC11 := Aside0.mk H
      clear H
      go_enter Try.func3, Try.ntmps3
      go_upto_region 10 with (first | ((with_reducible refine gate_callee (f := 5) rfl ?_); refine goesL_ (some 21) rfl rfl Try.func5 (by kernel_rfl) rfl #[.slice A0 l0.length c0, .int .i64 1048576] rfl (by (try simp only [List.map_toArray, List.map_cons, List.map_nil]); first | done | rfl | (simp only [List.length_drop, List.length_take]; rfl)) ?_; (with_reducible refine (laws_szRefS.calls k _ _ l0 1048576 t196 _ ?side1 ?side2 A4.out).mono ?_); (case side1 => repeat (first | exact HR0.out | (with_reducible refine Kd.C_alloc ?_ _) | (with_reducible refine Kd.C_drewN ?_ _) | (with_reducible refine Kd.C_drew ?_))); (case side2 => exact HC0.out); rintro e w12 ⟨rfl, hb⟩; refine ⟨_, rfl, ?_⟩; have n0_ := Aside0.mk (below_step (by repeat (first | (with_reducible first | exact HB.out | apply below_alloc | apply pw_below_drewN | apply below_drew1) | exact HB.out)) hb); clear HB; have HB := n0_; clear n0_; (try clear hb); (try clear hb2); (try clear hk); (try clear hi)) | ((with_reducible refine gate_callee (f := 7) rfl ?_); refine goesL_ (some 26) rfl rfl Try.func7 (by kernel_rfl) rfl #[.slice A0 l0.length c0] rfl (by (try simp only [List.map_toArray, List.map_cons, List.map_nil]); first | done | rfl | (simp only [List.length_drop, List.length_take]; rfl)) ?_; (with_reducible refine (laws_toRefS.calls k _ _ l0 t197 _ ?side1 ?side2 A7.out).mono ?_); (case side1 => repeat (first | exact (Kd.C_below HR0.out HB.out) | (with_reducible refine Kd.C_alloc ?_ _) | (with_reducible refine Kd.C_drewN ?_ _) | (with_reducible refine Kd.C_drew ?_))); (case side2 => exact HC0.out); rintro e w13 ⟨v198, rfl, ho0, hb⟩; refine ⟨_, rfl, ?_⟩; have n0_ := Aside0.mk (Kd.R_lower ho0 (below_size (by repeat (first | (with_reducible first | exact HB.out | apply below_alloc | apply pw_below_drewN | apply below_drew1) | exact HB.out)))); have n1_ := Aside0.mk (below_step (by repeat (first | (with_reducible first | exact HB.out | apply below_alloc | apply pw_below_drewN | apply below_drew1) | exact HB.out)) hb); clear HB; have HO199 := n0_; have HB := n1_; clear n0_ n1_; (try clear hb); (try clear hb2); (try clear hk); (try clear hi); (try clear ho0); obtain ⟨Ao14, co14, eo14⟩ := Kd.R_slice HO199.out; subst eo14) | ((with_reducible refine gate_callee (f := 6) rfl ?_); refine goesL_ (some 28) rfl rfl Try.func6 (by kernel_rfl) rfl #[.slice Ao14 t197.length co14, .string a1] rfl (by (try simp only [List.map_toArray, List.map_cons, List.map_nil]); first | done | rfl | (simp only [List.length_drop, List.length_take]; rfl)) ?_; (with_reducible refine (spec_NewWatch.calls k _ _ t197 a1 t200 t201 t202 t205 _ ?side1 ?side2 A8.out).mono ?_); (case side1 => repeat (first | exact (Kd.R_reads' HO199.out).2.2 | (with_reducible refine Kd.C_alloc ?_ _) | (with_reducible refine Kd.C_drewN ?_ _) | (with_reducible refine Kd.C_drew ?_))); (case side2 => exact (Kd.R_reads' HO199.out).2.1); rintro e w15 ⟨v203, rfl, ho0, hb⟩; refine ⟨_, rfl, ?_⟩; have n0_ := Aside0.mk (Kd.R_below (by (with_reducible repeat (first | apply Kd.R_alloc | apply Kd.R_drewN | apply Kd.R_drew)); exact HO199.out) hb); have n1_ := Aside0.mk (Kd.R_lower ho0 (below_size (by repeat (first | (with_reducible first | exact HB.out | apply below_alloc | apply pw_below_drewN | apply below_drew1) | exact HB.out)))); have n2_ := Aside0.mk (below_step (by repeat (first | (with_reducible first | exact HB.out | apply below_alloc | apply pw_below_drewN | apply below_drew1) | exact HB.out)) hb); clear HO199; clear HB; have HO199 := n0_; have HO204 := n1_; have HB := n2_; clear n0_ n1_ n2_; (try clear hb); (try clear hb2); (try clear hk); (try clear hi); (try clear ho0)) | ((with_reducible refine gate_dst (N := 6) rfl ?_); refine box_event ?hg (N := 6) ?hd (cs := #[.string (⟨#[]⟩ : ByteArray), .int .i64 0, .slice none 0 0]) (t := 26) ?hr ?_; (case hd => rfl); (case hg => rfl); (case hr => first | (go_simp; done) | (go_simp; rfl)); intro gb206 hg w16 hbox hb; have n0_ := Aside0.mk (Kd.R_below (by (with_reducible repeat (first | apply Kd.R_alloc | apply Kd.R_drewN | apply Kd.R_drew)); exact HO199.out) hb); have n1_ := Aside0.mk (Kd.R_below (by (with_reducible repeat (first | apply Kd.R_alloc | apply Kd.R_drewN | apply Kd.R_drew)); exact HO204.out) hb); have n2_ := Aside0.mk (below_step (by repeat (first | (with_reducible first | exact HB.out | apply below_alloc | apply pw_below_drewN | apply below_drew1) | exact HB.out)) hb); have n3_ := Aside0.mk (hbox); have n4_ := Aside0.mk ((by rw [hg]; exact (below_size (by repeat (first | (with_reducible first | exact HB.out | apply below_alloc | apply pw_below_drewN | apply below_drew1) | exact HB.out))) : w.heap.size ≤ gb206)); have n5_ := Aside0.mk ((by rw [hg]; exact (below_size (by repeat (first | (with_reducible first | exact HB.out | apply below_alloc | apply pw_below_drewN | apply below_drew1) | exact HB.out))) : w.heap.size ≤ gb206)); clear HO199; clear HO204; clear HB; have HO199 := n0_; have HO204 := n1_; have HB := n2_; have BK206 := n3_; have GW206 := n4_; have GE206 := n5_; clear n0_ n1_ n2_ n3_ n4_ n5_; clear hb hbox hg; have hcz17_0 : w16.cell? ⟨gb206, 0, none⟩ = some (.string (⟨#[]⟩ : ByteArray)) := (blk_cell BK206.out 0).trans rfl; have hcz17_1 : w16.cell? ⟨gb206, 1, none⟩ = some (.int .i64 0) := (blk_cell BK206.out 1).trans rfl; have hcz17_2 : w16.cell? ⟨gb206, 2, none⟩ = some (.slice none 0 0) := (blk_cell BK206.out 2).trans rfl; have hfz17_0 := blk_frozen BK206.out 0; have hfz17_1 := blk_frozen BK206.out 1; have hfz17_2 := blk_frozen BK206.out 2; obtain ⟨Ao18, co18, eo18⟩ := Kd.R_slice HO204.out; subst eo18) | ((with_reducible refine gate_callee (f := 7) rfl ?_); refine goesL_ (some 32) rfl rfl Try.func7 (by kernel_rfl) rfl #[.slice A0 l0.length c0] rfl (by (try simp only [List.map_toArray, List.map_cons, List.map_nil]); first | done | rfl | (simp only [List.length_drop, List.length_take]; rfl)) ?_; (with_reducible refine (laws_toRefS.calls k _ _ l0 t207 _ ?side1 ?side2 A9.out).mono ?_); (case side1 => exact Kd.C_below HR0.out (by repeat (first | (with_reducible first | exact HB.out | apply below_alloc | apply pw_below_drewN | apply below_drew1 | refine below_set ?_ GE206.out) | exact HB.out))); (case side2 => exact HC0.out); rintro e w19 ⟨v208, rfl, ho0, hb⟩; refine ⟨_, rfl, ?_⟩; have n0_ := Aside0.mk (Kd.R_elder' (by (with_reducible repeat (first | apply Kd.R_alloc | apply Kd.R_drewN | apply Kd.R_drew)); exact (Kd.R_mono (Kd.R_far (p := ⟨gb206, 2, none⟩) (Kd.R_far (p := ⟨gb206, 1, none⟩) (Kd.R_far (p := ⟨gb206, 0, none⟩) (Kd.R_types HO199.out BK206.out (by decide)) (fun _ hk => hk.2) (.string t200)) (fun _ hk => hk.2) (.int .i64 t201)) (fun _ hk => hk.2) (.slice Ao18 t202.length co18)) (fun _ h_ => h_.1))) (Kd.R_base ho0) hb); have n1_ := Aside0.mk (Kd.R_below (by (with_reducible repeat (first | apply Kd.R_alloc | apply Kd.R_drewN | apply Kd.R_drew)); exact (Kd.R_mono (Kd.R_far (p := ⟨gb206, 2, none⟩) (Kd.R_far (p := ⟨gb206, 1, none⟩) (Kd.R_far (p := ⟨gb206, 0, none⟩) (Kd.R_types HO204.out BK206.out (by decide)) (fun _ hk => hk.2) (.string t200)) (fun _ hk => hk.2) (.int .i64 t201)) (fun _ hk => hk.2) (.slice Ao18 t202.length co18)) (fun _ h_ => h_.1))) hb); have n2_ := Aside0.mk (Kd.R_lower (Kd.R_new' ho0 (Kd.R_lt (by (with_reducible repeat (first | apply Kd.R_alloc | apply Kd.R_drewN | apply Kd.R_drew)); exact (Kd.R_mono (Kd.R_far (p := ⟨gb206, 2, none⟩) (Kd.R_far (p := ⟨gb206, 1, none⟩) (Kd.R_far (p := ⟨gb206, 0, none⟩) (Kd.R_types HO199.out BK206.out (by decide)) (fun _ hk => hk.2) (.string t200)) (fun _ hk => hk.2) (.int .i64 t201)) (fun _ hk => hk.2) (.slice Ao18 t202.length co18)) (fun _ h_ => h_.1))))) (below_size (by repeat (first | (with_reducible first | exact HB.out | apply below_alloc | apply pw_below_drewN | apply below_drew1 | refine below_set ?_ GE206.out) | exact HB.out)))); have n3_ := Aside0.mk (blk_below (g := gb206) (o := .cells #[.string t200, .int .i64 t201, .slice Ao18 t202.length co18] 26 (0, 0)) (by (with_reducible repeat (first | refine blk_drewN ?_ _ | refine blk_drew ?_ | refine blk_alloc ?_ _)); refine blk_put (cs := #[.string t200, .int .i64 t201, .slice none 0 0]) ?_ 2 _ rfl; (with_reducible repeat (first | refine blk_drewN ?_ _ | refine blk_drew ?_ | refine blk_alloc ?_ _)); refine blk_put (cs := #[.string t200, .int .i64 0, .slice none 0 0]) ?_ 1 _ rfl; (with_reducible repeat (first | refine blk_drewN ?_ _ | refine blk_drew ?_ | refine blk_alloc ?_ _)); refine blk_put (cs := #[.string (⟨#[]⟩ : ByteArray), .int .i64 0, .slice none 0 0]) ?_ 0 _ rfl; (with_reducible repeat (first | refine blk_drewN ?_ _ | refine blk_drew ?_ | refine blk_alloc ?_ _)); exact BK206.out) hb); have n4_ := Aside0.mk (below_step (by repeat (first | (with_reducible first | exact HB.out | apply below_alloc | apply pw_below_drewN | apply below_drew1 | refine below_set ?_ GE206.out) | exact HB.out)) hb); clear HO199; clear HO204; clear BK206; clear HB; have HO199 := n0_; have HO204 := n1_; have HO209 := n2_; have BK206 := n3_; have HB := n4_; clear n0_ n1_ n2_ n3_ n4_; (try clear hb); (try clear hb2); (try clear hk); (try clear hi); (try clear ho0); obtain ⟨Ao20, co20, eo20⟩ := Kd.R_slice HO209.out; subst eo20) | ((with_reducible refine gate_callee (f := 8) rfl ?_); refine goesL_ (some 36) rfl rfl Try.func8 (by kernel_rfl) rfl #[.slice Ao20 t207.length co20, .string a1] rfl (by (try simp only [List.map_toArray, List.map_cons, List.map_nil]); first | done | rfl | (simp only [List.length_drop, List.length_take]; rfl)) ?_; (with_reducible refine (impl_NewWatch.calls k _ _ t207 a1 t210 t211 t212 t215 _ ?side1 ?side2 A10.out).mono ?_); (case side1 => repeat (first | exact (Kd.R_reads' HO209.out).2.2 | (with_reducible refine Kd.C_alloc ?_ _) | (with_reducible refine Kd.C_drewN ?_ _) | (with_reducible refine Kd.C_drew ?_))); (case side2 => exact (Kd.R_reads' HO209.out).2.1); rintro e w21 ⟨v213, rfl, ho0, hb⟩; refine ⟨_, rfl, ?_⟩; have n0_ := Aside0.mk (Kd.R_below (by (with_reducible repeat (first | apply Kd.R_alloc | apply Kd.R_drewN | apply Kd.R_drew)); exact HO199.out) hb); have n1_ := Aside0.mk (Kd.R_elder' (by (with_reducible repeat (first | apply Kd.R_alloc | apply Kd.R_drewN | apply Kd.R_drew)); exact HO204.out) (Kd.R_base ho0) hb); have n2_ := Aside0.mk (Kd.R_below (by (with_reducible repeat (first | apply Kd.R_alloc | apply Kd.R_drewN | apply Kd.R_drew)); exact HO209.out) hb); have n3_ := Aside0.mk (Kd.R_lower (Kd.R_new' ho0 (Kd.R_lt (by (with_reducible repeat (first | apply Kd.R_alloc | apply Kd.R_drewN | apply Kd.R_drew)); exact HO204.out))) (below_size (by repeat (first | (with_reducible first | exact HB.out | apply below_alloc | apply pw_below_drewN | apply below_drew1 | refine below_set ?_ GE206.out) | exact HB.out)))); have n4_ := Aside0.mk (blk_below (g := gb206) (o := .cells #[.string t200, .int .i64 t201, .slice Ao18 t202.length co18] 26 (0, 0)) (by (with_reducible repeat (first | refine blk_drewN ?_ _ | refine blk_drew ?_ | refine blk_alloc ?_ _)); exact BK206.out) hb); have n5_ := Aside0.mk (below_step (by repeat (first | (with_reducible first | exact HB.out | apply below_alloc | apply pw_below_drewN | apply below_drew1 | refine below_set ?_ GE206.out) | exact HB.out)) hb); clear HO199; clear HO204; clear HO209; clear BK206; clear HB; have HO199 := n0_; have HO204 := n1_; have HO209 := n2_; have HO214 := n3_; have BK206 := n4_; have HB := n5_; clear n0_ n1_ n2_ n3_ n4_ n5_; (try clear hb); (try clear hb2); (try clear hk); (try clear hi); (try clear ho0)) | ((with_reducible refine gate_dst (N := 9) rfl ?_); refine box_event ?hg (N := 9) ?hd (cs := #[.string (⟨#[]⟩ : ByteArray), .int .i64 0, .slice none 0 0]) (t := 26) ?hr ?_; (case hd => rfl); (case hg => rfl); (case hr => first | (go_simp; done) | (go_simp; rfl)); intro gb216 hg w22 hbox hb; have n0_ := Aside0.mk (Kd.R_below (by (with_reducible repeat (first | apply Kd.R_alloc | apply Kd.R_drewN | apply Kd.R_drew)); exact HO199.out) hb); have n1_ := Aside0.mk (Kd.R_below (by (with_reducible repeat (first | apply Kd.R_alloc | apply Kd.R_drewN | apply Kd.R_drew)); exact HO204.out) hb); have n2_ := Aside0.mk (Kd.R_below (by (with_reducible repeat (first | apply Kd.R_alloc | apply Kd.R_drewN | apply Kd.R_drew)); exact HO209.out) hb); have n3_ := Aside0.mk (Kd.R_below (by (with_reducible repeat (first | apply Kd.R_alloc | apply Kd.R_drewN | apply Kd.R_drew)); exact HO214.out) hb); have n4_ := Aside0.mk (blk_below (g := gb206) (o := .cells #[.string t200, .int .i64 t201, .slice Ao18 t202.length co18] 26 (0, 0)) (by (with_reducible repeat (first | refine blk_drewN ?_ _ | refine blk_drew ?_ | refine blk_alloc ?_ _)); exact BK206.out) hb); have n5_ := Aside0.mk (below_step (by repeat (first | (with_reducible first | exact HB.out | apply below_alloc | apply pw_below_drewN | apply below_drew1 | refine below_set ?_ GE206.out) | exact HB.out)) hb); have n6_ := Aside0.mk (hbox); have n7_ := Aside0.mk ((by rw [hg]; exact (below_size (by repeat (first | (with_reducible first | exact HB.out | apply below_alloc | apply pw_below_drewN | apply below_drew1 | refine below_set ?_ GE206.out) | exact HB.out))) : w.heap.size ≤ gb216)); have n8_ := Aside0.mk ((by rw [hg]; exact (below_size (by repeat (first | (with_reducible first | exact HB.out | apply below_alloc | apply pw_below_drewN | apply below_drew1 | refine below_set ?_ GE206.out) | exact HB.out))) : w.heap.size ≤ gb216)); have n9_ := Aside0.mk ((by rw [hg]; exact Nat.ne_of_lt (blk_lt (g := gb206) (o := .cells #[.string t200, .int .i64 t201, .slice Ao18 t202.length co18] 26 (0, 0)) (by (with_reducible repeat (first | refine blk_drewN ?_ _ | refine blk_drew ?_ | refine blk_alloc ?_ _)); exact BK206.out)) : gb206 ≠ gb216)); have n10_ := Aside0.mk ((by rw [hg]; exact Nat.ne_of_gt (blk_lt (g := gb206) (o := .cells #[.string t200, .int .i64 t201, .slice Ao18 t202.length co18] 26 (0, 0)) (by (with_reducible repeat (first | refine blk_drewN ?_ _ | refine blk_drew ?_ | refine blk_alloc ?_ _)); exact BK206.out)) : gb216 ≠ gb206)); clear HO199; clear HO204; clear HO209; clear HO214; clear BK206; clear HB; have HO199 := n0_; have HO204 := n1_; have HO209 := n2_; have HO214 := n3_; have BK206 := n4_; have HB := n5_; have BK216 := n6_; have GW216 := n7_; have GE216 := n8_; have NB206_216 := n9_; have NB216_206 := n10_; clear n0_ n1_ n2_ n3_ n4_ n5_ n6_ n7_ n8_ n9_ n10_; clear hb hbox hg; have hnb23 := NB216_206.out; have hnc23 := NB206_216.out; have hcz24_0 : w22.cell? ⟨gb216, 0, none⟩ = some (.string (⟨#[]⟩ : ByteArray)) := (blk_cell BK216.out 0).trans rfl; have hcz24_1 : w22.cell? ⟨gb216, 1, none⟩ = some (.int .i64 0) := (blk_cell BK216.out 1).trans rfl; have hcz24_2 : w22.cell? ⟨gb216, 2, none⟩ = some (.slice none 0 0) := (blk_cell BK216.out 2).trans rfl; have hfz24_0 := blk_frozen BK216.out 0; have hfz24_1 := blk_frozen BK216.out 1; have hfz24_2 := blk_frozen BK216.out 2; obtain ⟨Ao25, co25, eo25⟩ := Kd.R_slice HO214.out; subst eo25))
      (try simp only [Act.put, List.setIfInBounds_toArray, List.set_cons_zero, List.set_cons_succ])
      go_cut [47] (fun v47 wc => ∃ (kq : Nat) (x47_10 : Bool), v47 = .bool x47_10 ∧ Aside0 (laws_FnExactNewWatch.j0 kq l0 a1 t205 t207 t215 x47_10 t200 t201 t202 t210 t211 t212 = some true) ∧ Aside0 (kq ≤ k) ∧ Aside0 (Kd.R k48 48 wc w.heap.size (fun _ => True) (.slice Ao20 t207.length co20) t207) ∧ Aside0 (Kd.R k73 73 wc w.heap.size (fun k_ => some k_ ≠ ((.slice Ao25 t212.length co25) : Value).ownBlock) (.slice Ao18 t202.length co18) t202) ∧ Aside0 (Kd.R k73 73 wc w.heap.size (fun k_ => some k_ ≠ ((.slice Ao18 t202.length co18) : Value).ownBlock) (.slice Ao25 t212.length co25) t212) ∧ Aside0 (wc.heap[gb206]? = some (.cells #[.string t200, .int .i64 t201, (.slice Ao18 t202.length co18)] 26 (0, 0))) ∧ Aside0 (wc.heap[gb216]? = some (.cells #[.string t210, .int .i64 t211, (.slice Ao25 t212.length co25)] 26 (0, 0))) ∧ Aside0 (Below w.heap.size w wc))
      case first =>
        have H := HC11.out
        clear HC11
        replace H := Option.bind_eq_some_iff.mp H
        obtain ⟨t217, A260, H⟩ := H
        replace H : (if t217 = true then (laws_FnExactNewWatch.j0 k l0 a1 t205 t207 t215 (t215 != t205) t200 t201 t202 t210 t211 t212) else (laws_FnExactNewWatch.j0 k l0 a1 t205 t207 t215 true t200 t201 t202 t210 t211 t212)) = some true := H
        have A26 := Aside0.mk A260
        clear A260
        by_cases c27 : t217 = true
        · subst c27
          have H1 : (laws_FnExactNewWatch.j0 k l0 a1 t205 t207 t215 (t215 != t205) t200 t201 t202 t210 t211 t212) = some true := by rw [if_pos rfl] at H; exact H
          clear H
          have H := H1
          clear H1
          have H' := Aside0.mk H
          clear H
          have hnb28 := NB216_206.out
          have hnc28 := NB206_216.out
          have hcz29_0 : w22.cell? ⟨gb216, 0, none⟩ = some (.string (⟨#[]⟩ : ByteArray)) := (blk_cell BK216.out 0).trans rfl
          have hcz29_1 : w22.cell? ⟨gb216, 1, none⟩ = some (.int .i64 0) := (blk_cell BK216.out 1).trans rfl
          have hcz29_2 : w22.cell? ⟨gb216, 2, none⟩ = some (.slice none 0 0) := (blk_cell BK216.out 2).trans rfl
          have hfz29_0 := blk_frozen BK216.out 0
          have hfz29_1 := blk_frozen BK216.out 1
          have hfz29_2 := blk_frozen BK216.out 2
          have hcz30_0 : w22.cell? ⟨gb206, 0, none⟩ = some (.string t200) := (blk_cell BK206.out 0).trans rfl
          have hcz30_1 : w22.cell? ⟨gb206, 1, none⟩ = some (.int .i64 t201) := (blk_cell BK206.out 1).trans rfl
          have hcz30_2 : w22.cell? ⟨gb206, 2, none⟩ = some (.slice Ao18 t202.length co18) := (blk_cell BK206.out 2).trans rfl
          have hfz30_0 := blk_frozen BK206.out 0
          have hfz30_1 := blk_frozen BK206.out 1
          have hfz30_2 := blk_frozen BK206.out 2
          go_wp2_with (first | ((with_reducible refine gate_callee (f := 9) rfl ?_); refine goesL_ (some 41) rfl rfl Try.func9 (by kernel_rfl) rfl #[.agg #[.string t210, .int .i64 t211, .slice Ao25 t212.length co25], .agg #[.string t200, .int .i64 t201, .slice Ao18 t202.length co18]] rfl (by (try simp only [List.map_toArray, List.map_cons, List.map_nil]); first | done | rfl | (simp only [List.length_drop, List.length_take]; rfl)) ?_; (with_reducible refine (laws_eqWatch.calls k t210 t211 _ _ t212 t200 t201 _ _ t202 true _ ?side1 ?side2 ?side3 ?side4 A26.out).mono ?_); (case side1 => refine (Kd.R_reads' (e := 73) (base := w.heap.size) (ok := fun k_ => (True ∧ some k_ ≠ (.slice Ao18 t202.length co18 : Value).ownBlock)) (n := t212.length) (c := co25) ?_).2.2; exact (by (with_reducible repeat (first | apply Kd.R_alloc | apply Kd.R_drewN | apply Kd.R_drew)); exact (Kd.R_mono (Kd.R_far (p := ⟨gb216, 2, none⟩) (Kd.R_far (p := ⟨gb216, 1, none⟩) (Kd.R_far (p := ⟨gb216, 0, none⟩) (Kd.R_types HO214.out BK216.out (by decide)) (fun _ hk => hk.2) (.string t210)) (fun _ hk => hk.2) (.int .i64 t211)) (fun _ hk => hk.2) (.slice Ao25 t212.length co25)) (fun _ h_ => h_.1)))); (case side2 => exact (Kd.R_reads' HO214.out).2.1); (case side3 => refine (Kd.R_reads' (e := 73) (base := w.heap.size) (ok := fun k_ => (True ∧ some k_ ≠ (.slice Ao25 t212.length co25 : Value).ownBlock)) (n := t202.length) (c := co18) ?_).2.2; exact (by (with_reducible repeat (first | apply Kd.R_alloc | apply Kd.R_drewN | apply Kd.R_drew)); exact (Kd.R_mono (Kd.R_far (p := ⟨gb216, 2, none⟩) (Kd.R_far (p := ⟨gb216, 1, none⟩) (Kd.R_far (p := ⟨gb216, 0, none⟩) (Kd.R_types HO204.out BK216.out (by decide)) (fun _ hk => hk.2) (.string t210)) (fun _ hk => hk.2) (.int .i64 t211)) (fun _ hk => hk.2) (.slice Ao25 t212.length co25)) (fun _ h_ => h_.1)))); (case side4 => exact (Kd.R_reads' HO204.out).2.1); rintro e w31 ⟨rfl, hb⟩; refine ⟨_, rfl, ?_⟩; have n0_ := Aside0.mk (Kd.R_below (by (with_reducible repeat (first | apply Kd.R_alloc | apply Kd.R_drewN | apply Kd.R_drew)); exact (Kd.R_mono (Kd.R_far (p := ⟨gb216, 2, none⟩) (Kd.R_far (p := ⟨gb216, 1, none⟩) (Kd.R_far (p := ⟨gb216, 0, none⟩) (Kd.R_types HO199.out BK216.out (by decide)) (fun _ hk => hk.2) (.string t210)) (fun _ hk => hk.2) (.int .i64 t211)) (fun _ hk => hk.2) (.slice Ao25 t212.length co25)) (fun _ h_ => h_.1))) hb); have n1_ := Aside0.mk (Kd.R_below (by (with_reducible repeat (first | apply Kd.R_alloc | apply Kd.R_drewN | apply Kd.R_drew)); exact (Kd.R_mono (Kd.R_far (p := ⟨gb216, 2, none⟩) (Kd.R_far (p := ⟨gb216, 1, none⟩) (Kd.R_far (p := ⟨gb216, 0, none⟩) (Kd.R_types HO204.out BK216.out (by decide)) (fun _ hk => hk.2) (.string t210)) (fun _ hk => hk.2) (.int .i64 t211)) (fun _ hk => hk.2) (.slice Ao25 t212.length co25)) (fun _ h_ => h_.1))) hb); have n2_ := Aside0.mk (Kd.R_below (by (with_reducible repeat (first | apply Kd.R_alloc | apply Kd.R_drewN | apply Kd.R_drew)); exact (Kd.R_mono (Kd.R_far (p := ⟨gb216, 2, none⟩) (Kd.R_far (p := ⟨gb216, 1, none⟩) (Kd.R_far (p := ⟨gb216, 0, none⟩) (Kd.R_types HO209.out BK216.out (by decide)) (fun _ hk => hk.2) (.string t210)) (fun _ hk => hk.2) (.int .i64 t211)) (fun _ hk => hk.2) (.slice Ao25 t212.length co25)) (fun _ h_ => h_.1))) hb); have n3_ := Aside0.mk (Kd.R_below (by (with_reducible repeat (first | apply Kd.R_alloc | apply Kd.R_drewN | apply Kd.R_drew)); exact (Kd.R_mono (Kd.R_far (p := ⟨gb216, 2, none⟩) (Kd.R_far (p := ⟨gb216, 1, none⟩) (Kd.R_far (p := ⟨gb216, 0, none⟩) (Kd.R_types HO214.out BK216.out (by decide)) (fun _ hk => hk.2) (.string t210)) (fun _ hk => hk.2) (.int .i64 t211)) (fun _ hk => hk.2) (.slice Ao25 t212.length co25)) (fun _ h_ => h_.1))) hb); have n4_ := Aside0.mk (blk_below (g := gb206) (o := .cells #[.string t200, .int .i64 t201, .slice Ao18 t202.length co18] 26 (0, 0)) (by (with_reducible repeat (first | refine blk_drewN ?_ _ | refine blk_drew ?_ | refine blk_alloc ?_ _)); refine blk_far ?_ NB206_216.out _; (with_reducible repeat (first | refine blk_drewN ?_ _ | refine blk_drew ?_ | refine blk_alloc ?_ _)); refine blk_far ?_ NB206_216.out _; (with_reducible repeat (first | refine blk_drewN ?_ _ | refine blk_drew ?_ | refine blk_alloc ?_ _)); refine blk_far ?_ NB206_216.out _; (with_reducible repeat (first | refine blk_drewN ?_ _ | refine blk_drew ?_ | refine blk_alloc ?_ _)); exact BK206.out) hb); have n5_ := Aside0.mk (blk_below (g := gb216) (o := .cells #[.string t210, .int .i64 t211, .slice Ao25 t212.length co25] 26 (0, 0)) (by (with_reducible repeat (first | refine blk_drewN ?_ _ | refine blk_drew ?_ | refine blk_alloc ?_ _)); refine blk_put (cs := #[.string t210, .int .i64 t211, .slice none 0 0]) ?_ 2 _ rfl; (with_reducible repeat (first | refine blk_drewN ?_ _ | refine blk_drew ?_ | refine blk_alloc ?_ _)); refine blk_put (cs := #[.string t210, .int .i64 0, .slice none 0 0]) ?_ 1 _ rfl; (with_reducible repeat (first | refine blk_drewN ?_ _ | refine blk_drew ?_ | refine blk_alloc ?_ _)); refine blk_put (cs := #[.string (⟨#[]⟩ : ByteArray), .int .i64 0, .slice none 0 0]) ?_ 0 _ rfl; (with_reducible repeat (first | refine blk_drewN ?_ _ | refine blk_drew ?_ | refine blk_alloc ?_ _)); exact BK216.out) hb); have n6_ := Aside0.mk (below_step (by repeat (first | (with_reducible first | exact HB.out | apply below_alloc | apply pw_below_drewN | apply below_drew1 | refine below_set ?_ GE206.out | refine below_set ?_ GE216.out) | exact HB.out)) hb); clear HO199; clear HO204; clear HO209; clear HO214; clear BK206; clear BK216; clear HB; have HO199 := n0_; have HO204 := n1_; have HO209 := n2_; have HO214 := n3_; have BK206 := n4_; have BK216 := n5_; have HB := n6_; clear n0_ n1_ n2_ n3_ n4_ n5_ n6_; (try clear hb); (try clear hb2); (try clear hk); (try clear hi)))
          go_meet
          case rel => exact ⟨_, ((t215 != t205)), (by first | rfl | (simp; done) | (simp; exact isEmpty_bne_ _) | (simp [*]; done)), H', ⟨by first | omega | exact Nat.le_refl _⟩, ⟨by (with_reducible repeat (first | apply Kd.R_alloc | apply Kd.R_drewN | apply Kd.R_drew)); exact Kd.R_mono HO209.out (fun _ hk => trivial)⟩, ⟨by (with_reducible repeat (first | apply Kd.R_alloc | apply Kd.R_drewN | apply Kd.R_drew)); exact Kd.R_mono HO204.out (fun _ hk => hk.2)⟩, ⟨by (with_reducible repeat (first | apply Kd.R_alloc | apply Kd.R_drewN | apply Kd.R_drew)); exact Kd.R_mono HO214.out (fun _ hk => hk.2)⟩, ⟨by (with_reducible repeat (first | refine blk_drewN ?_ _ | refine blk_drew ?_ | refine blk_alloc ?_ _)); exact BK206.out⟩, ⟨by (with_reducible repeat (first | refine blk_drewN ?_ _ | refine blk_drew ?_ | refine blk_alloc ?_ _)); exact BK216.out⟩, ⟨by repeat (first | (with_reducible first | exact HB.out | apply below_alloc | apply pw_below_drewN | apply below_drew1 | refine below_set ?_ GE206.out | refine below_set ?_ GE216.out) | exact HB.out)⟩⟩
        · replace c27 := Bool.eq_false_iff.mpr c27
          subst c27
          have H1 : (laws_FnExactNewWatch.j0 k l0 a1 t205 t207 t215 true t200 t201 t202 t210 t211 t212) = some true := by rw [if_neg (show ¬ (false = true) by decide)] at H; exact H
          clear H
          have H := H1
          clear H1
          have H' := Aside0.mk H
          clear H
          have hnb32 := NB216_206.out
          have hnc32 := NB206_216.out
          have hcz33_0 : w22.cell? ⟨gb216, 0, none⟩ = some (.string (⟨#[]⟩ : ByteArray)) := (blk_cell BK216.out 0).trans rfl
          have hcz33_1 : w22.cell? ⟨gb216, 1, none⟩ = some (.int .i64 0) := (blk_cell BK216.out 1).trans rfl
          have hcz33_2 : w22.cell? ⟨gb216, 2, none⟩ = some (.slice none 0 0) := (blk_cell BK216.out 2).trans rfl
          have hfz33_0 := blk_frozen BK216.out 0
          have hfz33_1 := blk_frozen BK216.out 1
          have hfz33_2 := blk_frozen BK216.out 2
          have hcz34_0 : w22.cell? ⟨gb206, 0, none⟩ = some (.string t200) := (blk_cell BK206.out 0).trans rfl
          have hcz34_1 : w22.cell? ⟨gb206, 1, none⟩ = some (.int .i64 t201) := (blk_cell BK206.out 1).trans rfl
          have hcz34_2 : w22.cell? ⟨gb206, 2, none⟩ = some (.slice Ao18 t202.length co18) := (blk_cell BK206.out 2).trans rfl
          have hfz34_0 := blk_frozen BK206.out 0
          have hfz34_1 := blk_frozen BK206.out 1
          have hfz34_2 := blk_frozen BK206.out 2
          go_wp2_with (first | ((with_reducible refine gate_callee (f := 9) rfl ?_); refine goesL_ (some 41) rfl rfl Try.func9 (by kernel_rfl) rfl #[.agg #[.string t210, .int .i64 t211, .slice Ao25 t212.length co25], .agg #[.string t200, .int .i64 t201, .slice Ao18 t202.length co18]] rfl (by (try simp only [List.map_toArray, List.map_cons, List.map_nil]); first | done | rfl | (simp only [List.length_drop, List.length_take]; rfl)) ?_; (with_reducible refine (laws_eqWatch.calls k t210 t211 _ _ t212 t200 t201 _ _ t202 false _ ?side1 ?side2 ?side3 ?side4 A26.out).mono ?_); (case side1 => refine (Kd.R_reads' (e := 73) (base := w.heap.size) (ok := fun k_ => (True ∧ some k_ ≠ (.slice Ao18 t202.length co18 : Value).ownBlock)) (n := t212.length) (c := co25) ?_).2.2; exact (by (with_reducible repeat (first | apply Kd.R_alloc | apply Kd.R_drewN | apply Kd.R_drew)); exact (Kd.R_mono (Kd.R_far (p := ⟨gb216, 2, none⟩) (Kd.R_far (p := ⟨gb216, 1, none⟩) (Kd.R_far (p := ⟨gb216, 0, none⟩) (Kd.R_types HO214.out BK216.out (by decide)) (fun _ hk => hk.2) (.string t210)) (fun _ hk => hk.2) (.int .i64 t211)) (fun _ hk => hk.2) (.slice Ao25 t212.length co25)) (fun _ h_ => h_.1)))); (case side2 => exact (Kd.R_reads' HO214.out).2.1); (case side3 => refine (Kd.R_reads' (e := 73) (base := w.heap.size) (ok := fun k_ => (True ∧ some k_ ≠ (.slice Ao25 t212.length co25 : Value).ownBlock)) (n := t202.length) (c := co18) ?_).2.2; exact (by (with_reducible repeat (first | apply Kd.R_alloc | apply Kd.R_drewN | apply Kd.R_drew)); exact (Kd.R_mono (Kd.R_far (p := ⟨gb216, 2, none⟩) (Kd.R_far (p := ⟨gb216, 1, none⟩) (Kd.R_far (p := ⟨gb216, 0, none⟩) (Kd.R_types HO204.out BK216.out (by decide)) (fun _ hk => hk.2) (.string t210)) (fun _ hk => hk.2) (.int .i64 t211)) (fun _ hk => hk.2) (.slice Ao25 t212.length co25)) (fun _ h_ => h_.1)))); (case side4 => exact (Kd.R_reads' HO204.out).2.1); rintro e w35 ⟨rfl, hb⟩; refine ⟨_, rfl, ?_⟩; have n0_ := Aside0.mk (Kd.R_below (by (with_reducible repeat (first | apply Kd.R_alloc | apply Kd.R_drewN | apply Kd.R_drew)); exact (Kd.R_mono (Kd.R_far (p := ⟨gb216, 2, none⟩) (Kd.R_far (p := ⟨gb216, 1, none⟩) (Kd.R_far (p := ⟨gb216, 0, none⟩) (Kd.R_types HO199.out BK216.out (by decide)) (fun _ hk => hk.2) (.string t210)) (fun _ hk => hk.2) (.int .i64 t211)) (fun _ hk => hk.2) (.slice Ao25 t212.length co25)) (fun _ h_ => h_.1))) hb); have n1_ := Aside0.mk (Kd.R_below (by (with_reducible repeat (first | apply Kd.R_alloc | apply Kd.R_drewN | apply Kd.R_drew)); exact (Kd.R_mono (Kd.R_far (p := ⟨gb216, 2, none⟩) (Kd.R_far (p := ⟨gb216, 1, none⟩) (Kd.R_far (p := ⟨gb216, 0, none⟩) (Kd.R_types HO204.out BK216.out (by decide)) (fun _ hk => hk.2) (.string t210)) (fun _ hk => hk.2) (.int .i64 t211)) (fun _ hk => hk.2) (.slice Ao25 t212.length co25)) (fun _ h_ => h_.1))) hb); have n2_ := Aside0.mk (Kd.R_below (by (with_reducible repeat (first | apply Kd.R_alloc | apply Kd.R_drewN | apply Kd.R_drew)); exact (Kd.R_mono (Kd.R_far (p := ⟨gb216, 2, none⟩) (Kd.R_far (p := ⟨gb216, 1, none⟩) (Kd.R_far (p := ⟨gb216, 0, none⟩) (Kd.R_types HO209.out BK216.out (by decide)) (fun _ hk => hk.2) (.string t210)) (fun _ hk => hk.2) (.int .i64 t211)) (fun _ hk => hk.2) (.slice Ao25 t212.length co25)) (fun _ h_ => h_.1))) hb); have n3_ := Aside0.mk (Kd.R_below (by (with_reducible repeat (first | apply Kd.R_alloc | apply Kd.R_drewN | apply Kd.R_drew)); exact (Kd.R_mono (Kd.R_far (p := ⟨gb216, 2, none⟩) (Kd.R_far (p := ⟨gb216, 1, none⟩) (Kd.R_far (p := ⟨gb216, 0, none⟩) (Kd.R_types HO214.out BK216.out (by decide)) (fun _ hk => hk.2) (.string t210)) (fun _ hk => hk.2) (.int .i64 t211)) (fun _ hk => hk.2) (.slice Ao25 t212.length co25)) (fun _ h_ => h_.1))) hb); have n4_ := Aside0.mk (blk_below (g := gb206) (o := .cells #[.string t200, .int .i64 t201, .slice Ao18 t202.length co18] 26 (0, 0)) (by (with_reducible repeat (first | refine blk_drewN ?_ _ | refine blk_drew ?_ | refine blk_alloc ?_ _)); refine blk_far ?_ NB206_216.out _; (with_reducible repeat (first | refine blk_drewN ?_ _ | refine blk_drew ?_ | refine blk_alloc ?_ _)); refine blk_far ?_ NB206_216.out _; (with_reducible repeat (first | refine blk_drewN ?_ _ | refine blk_drew ?_ | refine blk_alloc ?_ _)); refine blk_far ?_ NB206_216.out _; (with_reducible repeat (first | refine blk_drewN ?_ _ | refine blk_drew ?_ | refine blk_alloc ?_ _)); exact BK206.out) hb); have n5_ := Aside0.mk (blk_below (g := gb216) (o := .cells #[.string t210, .int .i64 t211, .slice Ao25 t212.length co25] 26 (0, 0)) (by (with_reducible repeat (first | refine blk_drewN ?_ _ | refine blk_drew ?_ | refine blk_alloc ?_ _)); refine blk_put (cs := #[.string t210, .int .i64 t211, .slice none 0 0]) ?_ 2 _ rfl; (with_reducible repeat (first | refine blk_drewN ?_ _ | refine blk_drew ?_ | refine blk_alloc ?_ _)); refine blk_put (cs := #[.string t210, .int .i64 0, .slice none 0 0]) ?_ 1 _ rfl; (with_reducible repeat (first | refine blk_drewN ?_ _ | refine blk_drew ?_ | refine blk_alloc ?_ _)); refine blk_put (cs := #[.string (⟨#[]⟩ : ByteArray), .int .i64 0, .slice none 0 0]) ?_ 0 _ rfl; (with_reducible repeat (first | refine blk_drewN ?_ _ | refine blk_drew ?_ | refine blk_alloc ?_ _)); exact BK216.out) hb); have n6_ := Aside0.mk (below_step (by repeat (first | (with_reducible first | exact HB.out | apply below_alloc | apply pw_below_drewN | apply below_drew1 | refine below_set ?_ GE206.out | refine below_set ?_ GE216.out) | exact HB.out)) hb); clear HO199; clear HO204; clear HO209; clear HO214; clear BK206; clear BK216; clear HB; have HO199 := n0_; have HO204 := n1_; have HO209 := n2_; have HO214 := n3_; have BK206 := n4_; have BK216 := n5_; have HB := n6_; clear n0_ n1_ n2_ n3_ n4_ n5_ n6_; (try clear hb); (try clear hb2); (try clear hk); (try clear hi)))
          go_meet
          case rel => exact ⟨_, (true), (by first | rfl | (simp; done) | (simp; exact isEmpty_bne_ _) | (simp [*]; done)), H', ⟨by first | omega | exact Nat.le_refl _⟩, ⟨by (with_reducible repeat (first | apply Kd.R_alloc | apply Kd.R_drewN | apply Kd.R_drew)); exact Kd.R_mono HO209.out (fun _ hk => trivial)⟩, ⟨by (with_reducible repeat (first | apply Kd.R_alloc | apply Kd.R_drewN | apply Kd.R_drew)); exact Kd.R_mono HO204.out (fun _ hk => hk.2)⟩, ⟨by (with_reducible repeat (first | apply Kd.R_alloc | apply Kd.R_drewN | apply Kd.R_drew)); exact Kd.R_mono HO214.out (fun _ hk => hk.2)⟩, ⟨by (with_reducible repeat (first | refine blk_drewN ?_ _ | refine blk_drew ?_ | refine blk_alloc ?_ _)); exact BK206.out⟩, ⟨by (with_reducible repeat (first | refine blk_drewN ?_ _ | refine blk_drew ?_ | refine blk_alloc ?_ _)); exact BK216.out⟩, ⟨by repeat (first | (with_reducible first | exact HB.out | apply below_alloc | apply pw_below_drewN | apply below_drew1 | refine below_set ?_ GE206.out | refine below_set ?_ GE216.out) | exact HB.out)⟩⟩
      case rest =>
        clear HC11
        try clear c2
        try clear p2
        try clear c3
        try clear c3b0
        try clear c3b1
        try clear c5
        try clear c5b0
        try clear c6
        try clear c7
        try clear c8
        try clear c9
        try clear c23
        try clear c27
        try clear c28
        try clear c32
        try clear hcz17_0
        try clear hcz17_1
        try clear hcz17_2
        try clear hcz24_0
        try clear hcz24_1
        try clear hcz24_2
        try clear hcz29_0
        try clear hcz29_1
        try clear hcz29_2
        try clear hcz30_0
        try clear hcz30_1
        try clear hcz30_2
        try clear hcz33_0
        try clear hcz33_1
        try clear hcz33_2
        try clear hcz34_0
        try clear hcz34_1
        try clear hcz34_2
        try clear hfz17_0
        try clear hfz17_1
        try clear hfz17_2
        try clear hfz24_0
        try clear hfz24_1
        try clear hfz24_2
        try clear hfz29_0
        try clear hfz29_1
        try clear hfz29_2
        try clear hfz30_0
        try clear hfz30_1
        try clear hfz30_2
        try clear hfz33_0
        try clear hfz33_1
        try clear hfz33_2
        try clear hfz34_0
        try clear hfz34_1
        try clear hfz34_2
        obtain ⟨kq, x47_10, rfl, HA, HJ10, HO_8, HO_207002, HO_217002, BK206, BK216, HB⟩ := hcut
        cases kq with
        | zero => exact absurd HA.out (by simp [laws_FnExactNewWatch.j0])
        | succ kj10 =>
          have H := HA.out
          clear HA
          simp only [laws_FnExactNewWatch.j0] at H
          by_cases c36 : x47_10 = true
          · subst c36
            have H1 : (some false) = some true := by rw [if_pos rfl] at H; exact H
            exact absurd H1 (by simp)
          · replace c36 := Bool.eq_false_iff.mpr c36
            subst c36
            have H1 : ((laws_toRefS.f kj10 l0).bind fun t218 => ((laws_eqRefS.f kj10 t207 t218).bind fun t221 => (if t221 = true then ((laws_markRefS.f kj10 t207 1).bind fun bt222 => (if bt222.1 < 0 then (laws_FnExactNewWatch.j1 kj10 l0 a1 t205 true t200 t201 t202 t210 t211 t212) else ((laws_eqWatch.f kj10 t210 t211 t212 t200 t201 t202).bind fun t224 => (if t224 = true then (laws_FnExactNewWatch.j1 kj10 l0 a1 t205 (t215 != t205) t200 t201 t202 t210 t211 t212) else (laws_FnExactNewWatch.j1 kj10 l0 a1 t205 true t200 t201 t202 t210 t211 t212))))) else (some false)))) = some true := by rw [if_neg (show ¬ (false = true) by decide)] at H; exact H
            clear H
            have H := H1
            clear H1
            replace H := Option.bind_eq_some_iff.mp H
            obtain ⟨t218, A370, H⟩ := H
            replace H : ((laws_eqRefS.f kj10 t207 t218).bind fun t221 => (if t221 = true then ((laws_markRefS.f kj10 t207 1).bind fun bt222 => (if bt222.1 < 0 then (laws_FnExactNewWatch.j1 kj10 l0 a1 t205 true t200 t201 t202 t210 t211 t212) else ((laws_eqWatch.f kj10 t210 t211 t212 t200 t201 t202).bind fun t224 => (if t224 = true then (laws_FnExactNewWatch.j1 kj10 l0 a1 t205 (t215 != t205) t200 t201 t202 t210 t211 t212) else (laws_FnExactNewWatch.j1 kj10 l0 a1 t205 true t200 t201 t202 t210 t211 t212))))) else (some false))) = some true := H
            have A37 := Aside0.mk A370
            clear A370
            replace H := Option.bind_eq_some_iff.mp H
            obtain ⟨t221, A380, H⟩ := H
            replace H : (if t221 = true then ((laws_markRefS.f kj10 t207 1).bind fun bt222 => (if bt222.1 < 0 then (laws_FnExactNewWatch.j1 kj10 l0 a1 t205 true t200 t201 t202 t210 t211 t212) else ((laws_eqWatch.f kj10 t210 t211 t212 t200 t201 t202).bind fun t224 => (if t224 = true then (laws_FnExactNewWatch.j1 kj10 l0 a1 t205 (t215 != t205) t200 t201 t202 t210 t211 t212) else (laws_FnExactNewWatch.j1 kj10 l0 a1 t205 true t200 t201 t202 t210 t211 t212))))) else (some false)) = some true := H
            have A38 := Aside0.mk A380
            clear A380
            by_cases c39 : t221 = true
            · subst c39
              have H1 : ((laws_markRefS.f kj10 t207 1).bind fun bt222 => (if bt222.1 < 0 then (laws_FnExactNewWatch.j1 kj10 l0 a1 t205 true t200 t201 t202 t210 t211 t212) else ((laws_eqWatch.f kj10 t210 t211 t212 t200 t201 t202).bind fun t224 => (if t224 = true then (laws_FnExactNewWatch.j1 kj10 l0 a1 t205 (t215 != t205) t200 t201 t202 t210 t211 t212) else (laws_FnExactNewWatch.j1 kj10 l0 a1 t205 true t200 t201 t202 t210 t211 t212))))) = some true := by rw [if_pos rfl] at H; exact H
              clear H
              have H := H1
              clear H1
              replace H := Option.bind_eq_some_iff.mp H
              obtain ⟨⟨t222, t223⟩, A400, H⟩ := H
              replace H : (if t222 < 0 then (laws_FnExactNewWatch.j1 kj10 l0 a1 t205 true t200 t201 t202 t210 t211 t212) else ((laws_eqWatch.f kj10 t210 t211 t212 t200 t201 t202).bind fun t224 => (if t224 = true then (laws_FnExactNewWatch.j1 kj10 l0 a1 t205 (t215 != t205) t200 t201 t202 t210 t211 t212) else (laws_FnExactNewWatch.j1 kj10 l0 a1 t205 true t200 t201 t202 t210 t211 t212)))) = some true := H
              have A40 := Aside0.mk A400
              clear A400
              have HC41 := Aside0.mk H
              clear H
              go_upto_region 16 with (first | ((with_reducible refine gate_callee (f := 7) rfl ?_); refine goesL_ (some 50) rfl rfl Try.func7 (by kernel_rfl) rfl #[.slice A0 l0.length c0] rfl (by (try simp only [List.map_toArray, List.map_cons, List.map_nil]); first | done | rfl | (simp only [List.length_drop, List.length_take]; rfl)) ?_; (with_reducible refine (laws_toRefS.calls kj10 _ _ l0 t218 _ ?side1 ?side2 A37.out).mono ?_); (case side1 => repeat (first | exact (Kd.C_below HR0.out HB.out) | (with_reducible refine Kd.C_alloc ?_ _) | (with_reducible refine Kd.C_drewN ?_ _) | (with_reducible refine Kd.C_drew ?_))); (case side2 => exact HC0.out); rintro e w42 ⟨v219, rfl, ho0, hb⟩; refine ⟨_, rfl, ?_⟩; have n0_ := Aside0.mk (Kd.R_elder' (by (with_reducible repeat (first | apply Kd.R_alloc | apply Kd.R_drewN | apply Kd.R_drew)); exact HO_8.out) (Kd.R_base ho0) hb); have n1_ := Aside0.mk (Kd.R_below (by (with_reducible repeat (first | apply Kd.R_alloc | apply Kd.R_drewN | apply Kd.R_drew)); exact HO_207002.out) hb); have n2_ := Aside0.mk (Kd.R_below (by (with_reducible repeat (first | apply Kd.R_alloc | apply Kd.R_drewN | apply Kd.R_drew)); exact HO_217002.out) hb); have n3_ := Aside0.mk (Kd.R_lower (Kd.R_new' ho0 (Kd.R_lt (by (with_reducible repeat (first | apply Kd.R_alloc | apply Kd.R_drewN | apply Kd.R_drew)); exact HO_8.out))) (below_size (by repeat (first | (with_reducible first | exact HB.out | apply below_alloc | apply pw_below_drewN | apply below_drew1 | refine below_set ?_ GE206.out | refine below_set ?_ GE216.out) | exact HB.out)))); have n4_ := Aside0.mk (blk_below (g := gb206) (o := .cells #[.string t200, .int .i64 t201, .slice Ao18 t202.length co18] 26 (0, 0)) (by (with_reducible repeat (first | refine blk_drewN ?_ _ | refine blk_drew ?_ | refine blk_alloc ?_ _)); exact BK206.out) hb); have n5_ := Aside0.mk (blk_below (g := gb216) (o := .cells #[.string t210, .int .i64 t211, .slice Ao25 t212.length co25] 26 (0, 0)) (by (with_reducible repeat (first | refine blk_drewN ?_ _ | refine blk_drew ?_ | refine blk_alloc ?_ _)); exact BK216.out) hb); have n6_ := Aside0.mk (below_step (by repeat (first | (with_reducible first | exact HB.out | apply below_alloc | apply pw_below_drewN | apply below_drew1 | refine below_set ?_ GE206.out | refine below_set ?_ GE216.out) | exact HB.out)) hb); clear HO_8; clear HO_207002; clear HO_217002; clear BK206; clear BK216; clear HB; have HO_8 := n0_; have HO_207002 := n1_; have HO_217002 := n2_; have HO220 := n3_; have BK206 := n4_; have BK216 := n5_; have HB := n6_; clear n0_ n1_ n2_ n3_ n4_ n5_ n6_; (try clear hb); (try clear hb2); (try clear hk); (try clear hi); (try clear ho0); obtain ⟨Ao43, co43, eo43⟩ := Kd.R_slice HO220.out; subst eo43) | ((with_reducible refine gate_callee (f := 10) rfl ?_); refine goesL_ (some 51) rfl rfl Try.func10 (by kernel_rfl) rfl #[.slice Ao20 t207.length co20, .slice Ao43 t218.length co43] rfl (by (try simp only [List.map_toArray, List.map_cons, List.map_nil]); first | done | rfl | (simp only [List.length_drop, List.length_take]; rfl)) ?_; (with_reducible refine (laws_eqRefS.calls kj10 _ _ t207 _ _ t218 true _ ?side1 ?side2 ?side3 ?side4 A38.out).mono ?_); (case side1 => repeat (first | exact (Kd.R_reads' HO_8.out).2.2 | (with_reducible refine Kd.C_alloc ?_ _) | (with_reducible refine Kd.C_drewN ?_ _) | (with_reducible refine Kd.C_drew ?_))); (case side2 => exact (Kd.R_reads' HO_8.out).2.1); (case side3 => repeat (first | exact (Kd.R_reads' HO220.out).2.2 | (with_reducible refine Kd.C_alloc ?_ _) | (with_reducible refine Kd.C_drewN ?_ _) | (with_reducible refine Kd.C_drew ?_))); (case side4 => exact (Kd.R_reads' HO220.out).2.1); rintro e w44 ⟨rfl, hb⟩; refine ⟨_, rfl, ?_⟩; have n0_ := Aside0.mk (Kd.R_below (by (with_reducible repeat (first | apply Kd.R_alloc | apply Kd.R_drewN | apply Kd.R_drew)); exact HO_8.out) hb); have n1_ := Aside0.mk (Kd.R_below (by (with_reducible repeat (first | apply Kd.R_alloc | apply Kd.R_drewN | apply Kd.R_drew)); exact HO_207002.out) hb); have n2_ := Aside0.mk (Kd.R_below (by (with_reducible repeat (first | apply Kd.R_alloc | apply Kd.R_drewN | apply Kd.R_drew)); exact HO_217002.out) hb); have n3_ := Aside0.mk (Kd.R_below (by (with_reducible repeat (first | apply Kd.R_alloc | apply Kd.R_drewN | apply Kd.R_drew)); exact HO220.out) hb); have n4_ := Aside0.mk (blk_below (g := gb206) (o := .cells #[.string t200, .int .i64 t201, .slice Ao18 t202.length co18] 26 (0, 0)) (by (with_reducible repeat (first | refine blk_drewN ?_ _ | refine blk_drew ?_ | refine blk_alloc ?_ _)); exact BK206.out) hb); have n5_ := Aside0.mk (blk_below (g := gb216) (o := .cells #[.string t210, .int .i64 t211, .slice Ao25 t212.length co25] 26 (0, 0)) (by (with_reducible repeat (first | refine blk_drewN ?_ _ | refine blk_drew ?_ | refine blk_alloc ?_ _)); exact BK216.out) hb); have n6_ := Aside0.mk (below_step (by repeat (first | (with_reducible first | exact HB.out | apply below_alloc | apply pw_below_drewN | apply below_drew1 | refine below_set ?_ GE206.out | refine below_set ?_ GE216.out) | exact HB.out)) hb); clear HO_8; clear HO_207002; clear HO_217002; clear HO220; clear BK206; clear BK216; clear HB; have HO_8 := n0_; have HO_207002 := n1_; have HO_217002 := n2_; have HO220 := n3_; have BK206 := n4_; have BK216 := n5_; have HB := n6_; clear n0_ n1_ n2_ n3_ n4_ n5_ n6_; (try clear hb); (try clear hb2); (try clear hk); (try clear hi)) | ((with_reducible refine gate_callee (f := 11) rfl ?_); refine goesL_ (some 55) rfl rfl Try.func11 (by kernel_rfl) rfl #[.slice Ao20 t207.length co20, .int .i64 1] rfl (by (try simp only [List.map_toArray, List.map_cons, List.map_nil]); first | done | rfl | (simp only [List.length_drop, List.length_take]; rfl)) ?_; (with_reducible refine (laws_markRefS.calls kj10 (fun k_ => some k_ = (.slice Ao20 t207.length co20 : Value).ownBlock) (.slice Ao20 t207.length co20) t207 1 t222 t223 w _ ?side1 ?side2 A40.out).mono ?_); (case side1 => repeat (first | (with_reducible first | exact HB.out | apply below_alloc | apply pw_below_drewN | apply below_drew1 | refine below_set ?_ GE206.out | refine below_set ?_ GE216.out) | exact HB.out)); (case side2 => exact Kd.R_tight rfl HO_8.out); rintro e w45 ⟨rfl, hy0, hb, hkp⟩; refine ⟨_, rfl, ?_⟩; have n0_ := Aside0.mk (Kd.R_reok rfl hy0 (fun k_ e_ => HO_8.out.1 k_ e_)); have n1_ := Aside0.mk (Kd.R_mono (ok' := fun k_ => some k_ ≠ (.slice Ao25 t212.length co25 : Value).ownBlock) (Kd.R_keptB ((Kd.R_apart' HO_207002.out (Kd.R_typed HO_8.out) (by decide))) hkp (fun k_ hk_ hs_ => (hk_.2) hs_)) (fun k_ hk_ => hk_.1.1)); have n2_ := Aside0.mk (Kd.R_mono (ok' := fun k_ => some k_ ≠ (.slice Ao18 t202.length co18 : Value).ownBlock) (Kd.R_keptB ((Kd.R_apart' HO_217002.out (Kd.R_typed HO_8.out) (by decide))) hkp (fun k_ hk_ hs_ => (hk_.2) hs_)) (fun k_ hk_ => hk_.1.1)); have n3_ := Aside0.mk (blk_kept (by (with_reducible repeat (first | refine blk_drewN ?_ _ | refine blk_drew ?_ | refine blk_alloc ?_ _)); exact BK206.out) hkp (fun hs_ => (fun e_ => (Kd.R_ne HO_8.out BK206.out (by decide)) e_) hs_)); have n4_ := Aside0.mk (blk_kept (by (with_reducible repeat (first | refine blk_drewN ?_ _ | refine blk_drew ?_ | refine blk_alloc ?_ _)); exact BK216.out) hkp (fun hs_ => (fun e_ => (Kd.R_ne HO_8.out BK216.out (by decide)) e_) hs_)); have n5_ := Aside0.mk (Kd.R_mono (ok' := fun k_ => some k_ ≠ (.slice Ao20 t207.length co20 : Value).ownBlock) (Kd.R_keptB (HO220.out) hkp (fun k_ hk_ hs_ => (hk_.2) hs_)) (fun k_ hk_ => hk_.1.2)); have n6_ := Aside0.mk (hb); clear HO_8; clear HO_207002; clear HO_217002; clear BK206; clear BK216; clear HO220; clear HB; have HO_8 := n0_; have HO_207002 := n1_; have HO_217002 := n2_; have BK206 := n3_; have BK216 := n4_; have HO220 := n5_; have HB := n6_; clear n0_ n1_ n2_ n3_ n4_ n5_ n6_; (try clear hb); (try clear hkp); (try clear hy0)))
              (try simp only [Act.put, List.setIfInBounds_toArray, List.set_cons_zero, List.set_cons_succ])
              go_cut [68] (fun v68 wc => ∃ (kq : Nat) (x68_40 : Bool), v68 = .bool x68_40 ∧ Aside0 (laws_FnExactNewWatch.j1 kq l0 a1 t205 x68_40 t200 t201 t202 t210 t211 t212 = some true) ∧ Aside0 (kq ≤ kj10) ∧ Aside0 (Kd.R k73 73 wc w.heap.size (fun k_ => some k_ ≠ ((.slice Ao25 t212.length co25) : Value).ownBlock) (.slice Ao18 t202.length co18) t202) ∧ Aside0 (Kd.R k73 73 wc w.heap.size (fun k_ => some k_ ≠ ((.slice Ao18 t202.length co18) : Value).ownBlock) (.slice Ao25 t212.length co25) t212) ∧ Aside0 (wc.heap[gb206]? = some (.cells #[.string t200, .int .i64 t201, (.slice Ao18 t202.length co18)] 26 (0, 0))) ∧ Aside0 (wc.heap[gb216]? = some (.cells #[.string t210, .int .i64 t211, (.slice Ao25 t212.length co25)] 26 (0, 0))) ∧ Aside0 (Below w.heap.size w wc))
              case first =>
                have H := HC41.out
                clear HC41
                by_cases c46 : t222 < 0
                · rw [if_pos c46] at H
                  have c46b0 : decide (t222 < 0) = true := decide_eq_true c46
                  clear c46
                  (first | rw [c46b0] | (simp only [i64_w, i32_w]; rw [c46b0]) | skip)
                  have H' := Aside0.mk H
                  clear H
                  go_wp2
                  go_meet
                  case rel => exact ⟨_, (true), (by first | rfl | (simp; done) | (simp; exact isEmpty_bne_ _) | (simp [*]; done)), H', ⟨by have := HJ10.out; first | omega | exact Nat.le_refl _⟩, ⟨by (with_reducible repeat (first | apply Kd.R_alloc | apply Kd.R_drewN | apply Kd.R_drew)); exact HO_207002.out⟩, ⟨by (with_reducible repeat (first | apply Kd.R_alloc | apply Kd.R_drewN | apply Kd.R_drew)); exact HO_217002.out⟩, ⟨by (with_reducible repeat (first | refine blk_drewN ?_ _ | refine blk_drew ?_ | refine blk_alloc ?_ _)); exact BK206.out⟩, ⟨by (with_reducible repeat (first | refine blk_drewN ?_ _ | refine blk_drew ?_ | refine blk_alloc ?_ _)); exact BK216.out⟩, ⟨by repeat (first | (with_reducible first | exact HB.out | apply below_alloc | apply pw_below_drewN | apply below_drew1 | refine below_set ?_ GE206.out | refine below_set ?_ GE216.out) | exact HB.out)⟩⟩
                · rw [if_neg c46] at H
                  have c46b0 : decide (t222 < 0) = false := decide_eq_false c46
                  clear c46
                  (first | rw [c46b0] | (simp only [i64_w, i32_w]; rw [c46b0]) | skip)
                  replace H := Option.bind_eq_some_iff.mp H
                  obtain ⟨t224, A470, H⟩ := H
                  replace H : (if t224 = true then (laws_FnExactNewWatch.j1 kj10 l0 a1 t205 (t215 != t205) t200 t201 t202 t210 t211 t212) else (laws_FnExactNewWatch.j1 kj10 l0 a1 t205 true t200 t201 t202 t210 t211 t212)) = some true := H
                  have A47 := Aside0.mk A470
                  clear A470
                  by_cases c48 : t224 = true
                  · subst c48
                    have H1 : (laws_FnExactNewWatch.j1 kj10 l0 a1 t205 (t215 != t205) t200 t201 t202 t210 t211 t212) = some true := by rw [if_pos rfl] at H; exact H
                    clear H
                    have H := H1
                    clear H1
                    have H' := Aside0.mk H
                    clear H
                    have hnb49 := NB216_206.out
                    have hnc49 := NB206_216.out
                    have hcz50_0 : w45.cell? ⟨gb216, 0, none⟩ = some (.string t210) := (blk_cell BK216.out 0).trans rfl
                    have hcz50_1 : w45.cell? ⟨gb216, 1, none⟩ = some (.int .i64 t211) := (blk_cell BK216.out 1).trans rfl
                    have hcz50_2 : w45.cell? ⟨gb216, 2, none⟩ = some (.slice Ao25 t212.length co25) := (blk_cell BK216.out 2).trans rfl
                    have hfz50_0 := blk_frozen BK216.out 0
                    have hfz50_1 := blk_frozen BK216.out 1
                    have hfz50_2 := blk_frozen BK216.out 2
                    have hcz51_0 : w45.cell? ⟨gb206, 0, none⟩ = some (.string t200) := (blk_cell BK206.out 0).trans rfl
                    have hcz51_1 : w45.cell? ⟨gb206, 1, none⟩ = some (.int .i64 t201) := (blk_cell BK206.out 1).trans rfl
                    have hcz51_2 : w45.cell? ⟨gb206, 2, none⟩ = some (.slice Ao18 t202.length co18) := (blk_cell BK206.out 2).trans rfl
                    have hfz51_0 := blk_frozen BK206.out 0
                    have hfz51_1 := blk_frozen BK206.out 1
                    have hfz51_2 := blk_frozen BK206.out 2
                    go_wp2_with (first | (go_at_call 9; (with_reducible refine (laws_eqWatch.calls kj10 t210 t211 _ _ t212 t200 t201 _ _ t202 true _ ?side1 ?side2 ?side3 ?side4 A47.out).mono ?_); (case side1 => repeat (first | exact (Kd.R_reads' HO_217002.out).2.2 | (with_reducible refine Kd.C_alloc ?_ _) | (with_reducible refine Kd.C_drewN ?_ _) | (with_reducible refine Kd.C_drew ?_))); (case side2 => exact (Kd.R_reads' HO_217002.out).2.1); (case side3 => repeat (first | exact (Kd.R_reads' HO_207002.out).2.2 | (with_reducible refine Kd.C_alloc ?_ _) | (with_reducible refine Kd.C_drewN ?_ _) | (with_reducible refine Kd.C_drew ?_))); (case side4 => exact (Kd.R_reads' HO_207002.out).2.1); rintro e w52 ⟨rfl, hb⟩; have n0_ := Aside0.mk (Kd.R_below (by (with_reducible repeat (first | apply Kd.R_alloc | apply Kd.R_drewN | apply Kd.R_drew)); exact HO_8.out) hb); have n1_ := Aside0.mk (Kd.R_below (by (with_reducible repeat (first | apply Kd.R_alloc | apply Kd.R_drewN | apply Kd.R_drew)); exact HO_207002.out) hb); have n2_ := Aside0.mk (Kd.R_below (by (with_reducible repeat (first | apply Kd.R_alloc | apply Kd.R_drewN | apply Kd.R_drew)); exact HO_217002.out) hb); have n3_ := Aside0.mk (Kd.R_below (by (with_reducible repeat (first | apply Kd.R_alloc | apply Kd.R_drewN | apply Kd.R_drew)); exact HO220.out) hb); have n4_ := Aside0.mk (blk_below (g := gb206) (o := .cells #[.string t200, .int .i64 t201, .slice Ao18 t202.length co18] 26 (0, 0)) (by (with_reducible repeat (first | refine blk_drewN ?_ _ | refine blk_drew ?_ | refine blk_alloc ?_ _)); exact BK206.out) hb); have n5_ := Aside0.mk (blk_below (g := gb216) (o := .cells #[.string t210, .int .i64 t211, .slice Ao25 t212.length co25] 26 (0, 0)) (by (with_reducible repeat (first | refine blk_drewN ?_ _ | refine blk_drew ?_ | refine blk_alloc ?_ _)); exact BK216.out) hb); have n6_ := Aside0.mk (below_step (by repeat (first | (with_reducible first | exact HB.out | apply below_alloc | apply pw_below_drewN | apply below_drew1 | refine below_set ?_ GE206.out | refine below_set ?_ GE216.out) | exact HB.out)) hb); clear HO_8; clear HO_207002; clear HO_217002; clear HO220; clear BK206; clear BK216; clear HB; have HO_8 := n0_; have HO_207002 := n1_; have HO_217002 := n2_; have HO220 := n3_; have BK206 := n4_; have BK216 := n5_; have HB := n6_; clear n0_ n1_ n2_ n3_ n4_ n5_ n6_; (try clear hb); (try clear hb2); (try clear hk); (try clear hi)))
                    go_meet
                    case rel => exact ⟨_, ((t215 != t205)), (by first | rfl | (simp; done) | (simp; exact isEmpty_bne_ _) | (simp [*]; done)), H', ⟨by have := HJ10.out; first | omega | exact Nat.le_refl _⟩, ⟨by (with_reducible repeat (first | apply Kd.R_alloc | apply Kd.R_drewN | apply Kd.R_drew)); exact HO_207002.out⟩, ⟨by (with_reducible repeat (first | apply Kd.R_alloc | apply Kd.R_drewN | apply Kd.R_drew)); exact HO_217002.out⟩, ⟨by (with_reducible repeat (first | refine blk_drewN ?_ _ | refine blk_drew ?_ | refine blk_alloc ?_ _)); exact BK206.out⟩, ⟨by (with_reducible repeat (first | refine blk_drewN ?_ _ | refine blk_drew ?_ | refine blk_alloc ?_ _)); exact BK216.out⟩, ⟨by repeat (first | (with_reducible first | exact HB.out | apply below_alloc | apply pw_below_drewN | apply below_drew1 | refine below_set ?_ GE206.out | refine below_set ?_ GE216.out) | exact HB.out)⟩⟩
                  · replace c48 := Bool.eq_false_iff.mpr c48
                    subst c48
                    have H1 : (laws_FnExactNewWatch.j1 kj10 l0 a1 t205 true t200 t201 t202 t210 t211 t212) = some true := by rw [if_neg (show ¬ (false = true) by decide)] at H; exact H
                    clear H
                    have H := H1
                    clear H1
                    have H' := Aside0.mk H
                    clear H
                    have hnb53 := NB216_206.out
                    have hnc53 := NB206_216.out
                    have hcz54_0 : w45.cell? ⟨gb216, 0, none⟩ = some (.string t210) := (blk_cell BK216.out 0).trans rfl
                    have hcz54_1 : w45.cell? ⟨gb216, 1, none⟩ = some (.int .i64 t211) := (blk_cell BK216.out 1).trans rfl
                    have hcz54_2 : w45.cell? ⟨gb216, 2, none⟩ = some (.slice Ao25 t212.length co25) := (blk_cell BK216.out 2).trans rfl
                    have hfz54_0 := blk_frozen BK216.out 0
                    have hfz54_1 := blk_frozen BK216.out 1
                    have hfz54_2 := blk_frozen BK216.out 2
                    have hcz55_0 : w45.cell? ⟨gb206, 0, none⟩ = some (.string t200) := (blk_cell BK206.out 0).trans rfl
                    have hcz55_1 : w45.cell? ⟨gb206, 1, none⟩ = some (.int .i64 t201) := (blk_cell BK206.out 1).trans rfl
                    have hcz55_2 : w45.cell? ⟨gb206, 2, none⟩ = some (.slice Ao18 t202.length co18) := (blk_cell BK206.out 2).trans rfl
                    have hfz55_0 := blk_frozen BK206.out 0
                    have hfz55_1 := blk_frozen BK206.out 1
                    have hfz55_2 := blk_frozen BK206.out 2
                    go_wp2_with (first | (go_at_call 9; (with_reducible refine (laws_eqWatch.calls kj10 t210 t211 _ _ t212 t200 t201 _ _ t202 false _ ?side1 ?side2 ?side3 ?side4 A47.out).mono ?_); (case side1 => repeat (first | exact (Kd.R_reads' HO_217002.out).2.2 | (with_reducible refine Kd.C_alloc ?_ _) | (with_reducible refine Kd.C_drewN ?_ _) | (with_reducible refine Kd.C_drew ?_))); (case side2 => exact (Kd.R_reads' HO_217002.out).2.1); (case side3 => repeat (first | exact (Kd.R_reads' HO_207002.out).2.2 | (with_reducible refine Kd.C_alloc ?_ _) | (with_reducible refine Kd.C_drewN ?_ _) | (with_reducible refine Kd.C_drew ?_))); (case side4 => exact (Kd.R_reads' HO_207002.out).2.1); rintro e w56 ⟨rfl, hb⟩; have n0_ := Aside0.mk (Kd.R_below (by (with_reducible repeat (first | apply Kd.R_alloc | apply Kd.R_drewN | apply Kd.R_drew)); exact HO_8.out) hb); have n1_ := Aside0.mk (Kd.R_below (by (with_reducible repeat (first | apply Kd.R_alloc | apply Kd.R_drewN | apply Kd.R_drew)); exact HO_207002.out) hb); have n2_ := Aside0.mk (Kd.R_below (by (with_reducible repeat (first | apply Kd.R_alloc | apply Kd.R_drewN | apply Kd.R_drew)); exact HO_217002.out) hb); have n3_ := Aside0.mk (Kd.R_below (by (with_reducible repeat (first | apply Kd.R_alloc | apply Kd.R_drewN | apply Kd.R_drew)); exact HO220.out) hb); have n4_ := Aside0.mk (blk_below (g := gb206) (o := .cells #[.string t200, .int .i64 t201, .slice Ao18 t202.length co18] 26 (0, 0)) (by (with_reducible repeat (first | refine blk_drewN ?_ _ | refine blk_drew ?_ | refine blk_alloc ?_ _)); exact BK206.out) hb); have n5_ := Aside0.mk (blk_below (g := gb216) (o := .cells #[.string t210, .int .i64 t211, .slice Ao25 t212.length co25] 26 (0, 0)) (by (with_reducible repeat (first | refine blk_drewN ?_ _ | refine blk_drew ?_ | refine blk_alloc ?_ _)); exact BK216.out) hb); have n6_ := Aside0.mk (below_step (by repeat (first | (with_reducible first | exact HB.out | apply below_alloc | apply pw_below_drewN | apply below_drew1 | refine below_set ?_ GE206.out | refine below_set ?_ GE216.out) | exact HB.out)) hb); clear HO_8; clear HO_207002; clear HO_217002; clear HO220; clear BK206; clear BK216; clear HB; have HO_8 := n0_; have HO_207002 := n1_; have HO_217002 := n2_; have HO220 := n3_; have BK206 := n4_; have BK216 := n5_; have HB := n6_; clear n0_ n1_ n2_ n3_ n4_ n5_ n6_; (try clear hb); (try clear hb2); (try clear hk); (try clear hi)))
                    go_meet
                    case rel => exact ⟨_, (true), (by first | rfl | (simp; done) | (simp; exact isEmpty_bne_ _) | (simp [*]; done)), H', ⟨by have := HJ10.out; first | omega | exact Nat.le_refl _⟩, ⟨by (with_reducible repeat (first | apply Kd.R_alloc | apply Kd.R_drewN | apply Kd.R_drew)); exact HO_207002.out⟩, ⟨by (with_reducible repeat (first | apply Kd.R_alloc | apply Kd.R_drewN | apply Kd.R_drew)); exact HO_217002.out⟩, ⟨by (with_reducible repeat (first | refine blk_drewN ?_ _ | refine blk_drew ?_ | refine blk_alloc ?_ _)); exact BK206.out⟩, ⟨by (with_reducible repeat (first | refine blk_drewN ?_ _ | refine blk_drew ?_ | refine blk_alloc ?_ _)); exact BK216.out⟩, ⟨by repeat (first | (with_reducible first | exact HB.out | apply below_alloc | apply pw_below_drewN | apply below_drew1 | refine below_set ?_ GE206.out | refine below_set ?_ GE216.out) | exact HB.out)⟩⟩
              case rest =>
                clear HC41
                try clear c1
                try clear c2
                try clear p2
                try clear c3
                try clear c3b0
                try clear c3b1
                try clear c4
                try clear c5
                try clear c5b0
                try clear c6
                try clear c7
                try clear c8
                try clear c9
                try clear c10
                try clear c11
                try clear c23
                try clear c27
                try clear c28
                try clear c32
                try clear c36
                try clear c39
                try clear c46
                try clear c46b0
                try clear c48
                try clear c49
                try clear c53
                try clear hcz17_0
                try clear hcz17_1
                try clear hcz17_2
                try clear hcz24_0
                try clear hcz24_1
                try clear hcz24_2
                try clear hcz29_0
                try clear hcz29_1
                try clear hcz29_2
                try clear hcz30_0
                try clear hcz30_1
                try clear hcz30_2
                try clear hcz33_0
                try clear hcz33_1
                try clear hcz33_2
                try clear hcz34_0
                try clear hcz34_1
                try clear hcz34_2
                try clear hcz50_0
                try clear hcz50_1
                try clear hcz50_2
                try clear hcz51_0
                try clear hcz51_1
                try clear hcz51_2
                try clear hcz54_0
                try clear hcz54_1
                try clear hcz54_2
                try clear hcz55_0
                try clear hcz55_1
                try clear hcz55_2
                try clear hfz17_0
                try clear hfz17_1
                try clear hfz17_2
                try clear hfz24_0
                try clear hfz24_1
                try clear hfz24_2
                try clear hfz29_0
                try clear hfz29_1
                try clear hfz29_2
                try clear hfz30_0
                try clear hfz30_1
                try clear hfz30_2
                try clear hfz33_0
                try clear hfz33_1
                try clear hfz33_2
                try clear hfz34_0
                try clear hfz34_1
                try clear hfz34_2
                try clear hfz50_0
                try clear hfz50_1
                try clear hfz50_2
                try clear hfz51_0
                try clear hfz51_1
                try clear hfz51_2
                try clear hfz54_0
                try clear hfz54_1
                try clear hfz54_2
                try clear hfz55_0
                try clear hfz55_1
                try clear hfz55_2
                try clear p2
                obtain ⟨kq, x68_40, rfl, HA, HJ40, HO_207002, HO_217002, BK206, BK216, HB⟩ := hcut
                cases kq with
                | zero => exact absurd HA.out (by simp [laws_FnExactNewWatch.j1])
                | succ kj40 =>
                  have H := HA.out
                  clear HA
                  simp only [laws_FnExactNewWatch.j1] at H
                  by_cases c57 : x68_40 = true
                  · subst c57
                    have H1 : (some false) = some true := by rw [if_pos rfl] at H; exact H
                    exact absurd H1 (by simp)
                  · replace c57 := Bool.eq_false_iff.mpr c57
                    subst c57
                    have H1 : ((laws_markWatch.f kj40 t210 t211 t212 1).bind fun bt225 => ((laws_heldWatch.f kj40 t210 t211 bt225.2 1).bind fun t227 => (if t227 < 0 then (some false) else (if t227 = bt225.1 then ((laws_toRefS.f kj40 l0).bind fun t228 => ((impl_NewWatch.f kj40 t228 a1).bind fun bt231 => ((laws_eqWatch.f kj40 bt231.1 bt231.2.1 bt231.2.2.1 t200 t201 t202).bind fun t238 => (if t238 = true then (laws_FnExactNewWatch.j2 kj40 bt225.1 (bt231.2.2.2 != t205) t210 t211 bt225.2) else (laws_FnExactNewWatch.j2 kj40 bt225.1 true t210 t211 bt225.2))))) else (some false))))) = some true := by rw [if_neg (show ¬ (false = true) by decide)] at H; exact H
                    clear H
                    have H := H1
                    clear H1
                    replace H := Option.bind_eq_some_iff.mp H
                    obtain ⟨⟨t225, t226⟩, A580, H⟩ := H
                    replace H : ((laws_heldWatch.f kj40 t210 t211 t226 1).bind fun t227 => (if t227 < 0 then (some false) else (if t227 = t225 then ((laws_toRefS.f kj40 l0).bind fun t228 => ((impl_NewWatch.f kj40 t228 a1).bind fun bt231 => ((laws_eqWatch.f kj40 bt231.1 bt231.2.1 bt231.2.2.1 t200 t201 t202).bind fun t238 => (if t238 = true then (laws_FnExactNewWatch.j2 kj40 t225 (bt231.2.2.2 != t205) t210 t211 t226) else (laws_FnExactNewWatch.j2 kj40 t225 true t210 t211 t226))))) else (some false)))) = some true := H
                    have A58 := Aside0.mk A580
                    clear A580
                    replace H := Option.bind_eq_some_iff.mp H
                    obtain ⟨t227, A590, H⟩ := H
                    replace H : (if t227 < 0 then (some false) else (if t227 = t225 then ((laws_toRefS.f kj40 l0).bind fun t228 => ((impl_NewWatch.f kj40 t228 a1).bind fun bt231 => ((laws_eqWatch.f kj40 bt231.1 bt231.2.1 bt231.2.2.1 t200 t201 t202).bind fun t238 => (if t238 = true then (laws_FnExactNewWatch.j2 kj40 t225 (bt231.2.2.2 != t205) t210 t211 t226) else (laws_FnExactNewWatch.j2 kj40 t225 true t210 t211 t226))))) else (some false))) = some true := H
                    have A59 := Aside0.mk A590
                    clear A590
                    by_cases c60 : t227 < 0
                    · rw [if_pos c60] at H
                      exact absurd H (by simp)
                    · rw [if_neg c60] at H
                      have c60b0 : decide (t227 < 0) = false := decide_eq_false c60
                      clear c60
                      by_cases c66 : t227 = t225
                      · rw [if_pos c66] at H
                        have c66b0 : (t227 == t225) = true := beq_iff_eq.mpr c66
                        have c66b1 : (t227 != t225) = false := bne_eq_false_iff_eq.mpr c66
                        clear c66
                        replace H := Option.bind_eq_some_iff.mp H
                        obtain ⟨t228, A670, H⟩ := H
                        replace H : ((impl_NewWatch.f kj40 t228 a1).bind fun bt231 => ((laws_eqWatch.f kj40 bt231.1 bt231.2.1 bt231.2.2.1 t200 t201 t202).bind fun t238 => (if t238 = true then (laws_FnExactNewWatch.j2 kj40 t225 (bt231.2.2.2 != t205) t210 t211 t226) else (laws_FnExactNewWatch.j2 kj40 t225 true t210 t211 t226)))) = some true := H
                        have A67 := Aside0.mk A670
                        clear A670
                        replace H := Option.bind_eq_some_iff.mp H
                        obtain ⟨⟨t231, t232, t233, t236⟩, A680, H⟩ := H
                        replace H : ((laws_eqWatch.f kj40 t231 t232 t233 t200 t201 t202).bind fun t238 => (if t238 = true then (laws_FnExactNewWatch.j2 kj40 t225 (t236 != t205) t210 t211 t226) else (laws_FnExactNewWatch.j2 kj40 t225 true t210 t211 t226))) = some true := H
                        have A68 := Aside0.mk A680
                        clear A680
                        have HC69 := Aside0.mk H
                        clear H
                        have hnb70 := NB216_206.out
                        have hnc70 := NB206_216.out
                        have hcz71_0 : wc.cell? ⟨gb216, 0, none⟩ = some (.string t210) := (blk_cell BK216.out 0).trans rfl
                        have hcz71_1 : wc.cell? ⟨gb216, 1, none⟩ = some (.int .i64 t211) := (blk_cell BK216.out 1).trans rfl
                        have hcz71_2 : wc.cell? ⟨gb216, 2, none⟩ = some (.slice Ao25 t212.length co25) := (blk_cell BK216.out 2).trans rfl
                        have hfz71_0 := blk_frozen BK216.out 0
                        have hfz71_1 := blk_frozen BK216.out 1
                        have hfz71_2 := blk_frozen BK216.out 2
                        go_upto_region 27 with (first | ((with_reducible refine gate_callee (f := 12) rfl ?_); refine goesL_ (some 71) rfl rfl Try.func12 (by kernel_rfl) rfl #[.agg #[.string t210, .int .i64 t211, .slice Ao25 t212.length co25], .int .i64 1] rfl (by (try simp only [List.map_toArray, List.map_cons, List.map_nil]); first | done | rfl | (simp only [List.length_drop, List.length_take]; rfl)) ?_; (with_reducible refine (laws_markWatch.calls kj40 t210 t211 (fun k_ => some k_ = (.slice Ao25 t212.length co25 : Value).ownBlock) (.slice Ao25 t212.length co25) t212 1 t225 t226 w _ ?side1 ?side2 A58.out).mono ?_); (case side1 => repeat (first | (with_reducible first | exact HB.out | apply below_alloc | apply pw_below_drewN | apply below_drew1 | refine below_set ?_ GE206.out | refine below_set ?_ GE216.out) | exact HB.out)); (case side2 => exact Kd.R_tight rfl HO_217002.out); rintro e w72 ⟨rfl, hy0, hb, hkp⟩; refine ⟨_, rfl, ?_⟩; have n0_ := Aside0.mk (Kd.R_mono (ok' := fun k_ => some k_ ≠ (.slice Ao25 t212.length co25 : Value).ownBlock) (Kd.R_keptB (HO_207002.out) hkp (fun k_ hk_ hs_ => (hk_) hs_)) (fun k_ hk_ => hk_.1)); have n1_ := Aside0.mk (Kd.R_reok rfl hy0 (fun k_ e_ => HO_217002.out.1 k_ e_)); have n2_ := Aside0.mk (blk_kept (by (with_reducible repeat (first | refine blk_drewN ?_ _ | refine blk_drew ?_ | refine blk_alloc ?_ _)); exact BK206.out) hkp (fun hs_ => (fun e_ => (Kd.R_ne HO_217002.out BK206.out (by decide)) e_) hs_)); have n3_ := Aside0.mk (blk_kept (by (with_reducible repeat (first | refine blk_drewN ?_ _ | refine blk_drew ?_ | refine blk_alloc ?_ _)); exact BK216.out) hkp (fun hs_ => (fun e_ => (Kd.R_ne HO_217002.out BK216.out (by decide)) e_) hs_)); have n4_ := Aside0.mk (hb); clear HO_207002; clear HO_217002; clear BK206; clear BK216; clear HB; have HO_207002 := n0_; have HO_217002 := n1_; have BK206 := n2_; have BK216 := n3_; have HB := n4_; clear n0_ n1_ n2_ n3_ n4_; (try clear hb); (try clear hkp); (try clear hy0); have hcz73_0 : w72.cell? ⟨gb216, 0, none⟩ = some (.string t210) := (blk_cell BK216.out 0).trans rfl; have hcz73_1 : w72.cell? ⟨gb216, 1, none⟩ = some (.int .i64 t211) := (blk_cell BK216.out 1).trans rfl; have hcz73_2 : w72.cell? ⟨gb216, 2, none⟩ = some (.slice Ao25 t212.length co25) := (blk_cell BK216.out 2).trans rfl; have hfz73_0 := blk_frozen BK216.out 0; have hfz73_1 := blk_frozen BK216.out 1; have hfz73_2 := blk_frozen BK216.out 2) | ((with_reducible refine gate_callee (f := 13) rfl ?_); refine goesL_ (some 74) rfl rfl Try.func13 (by kernel_rfl) rfl #[.agg #[.string t210, .int .i64 t211, .slice Ao25 t226.length co25], .int .i64 1] rfl (by (try simp only [List.map_toArray, List.map_cons, List.map_nil]); first | done | (rw [show t226.length = t212.length from (Kd.R_reads' HO_217002.out).1.symm] <;> rfl) | rfl | (simp only [List.length_drop, List.length_take]; rfl)) ?_; (with_reducible refine (laws_heldWatch.calls kj40 t210 t211 _ _ t226 1 t227 _ ?side1 ?side2 A59.out).mono ?_); (case side1 => repeat (first | exact (Kd.R_reads' HO_217002.out).2.2 | (with_reducible refine Kd.C_alloc ?_ _) | (with_reducible refine Kd.C_drewN ?_ _) | (with_reducible refine Kd.C_drew ?_))); (case side2 => rw [show t226.length = t212.length from (Kd.R_reads' HO_217002.out).1.symm]; exact (Kd.R_reads' HO_217002.out).2.1); rintro e w74 ⟨rfl, hb⟩; refine ⟨_, rfl, ?_⟩; have n0_ := Aside0.mk (Kd.R_below (by (with_reducible repeat (first | apply Kd.R_alloc | apply Kd.R_drewN | apply Kd.R_drew)); exact HO_207002.out) hb); have n1_ := Aside0.mk (Kd.R_below (by (with_reducible repeat (first | apply Kd.R_alloc | apply Kd.R_drewN | apply Kd.R_drew)); exact HO_217002.out) hb); have n2_ := Aside0.mk (blk_below (g := gb206) (o := .cells #[.string t200, .int .i64 t201, .slice Ao18 t202.length co18] 26 (0, 0)) (by (with_reducible repeat (first | refine blk_drewN ?_ _ | refine blk_drew ?_ | refine blk_alloc ?_ _)); exact BK206.out) hb); have n3_ := Aside0.mk (blk_below (g := gb216) (o := .cells #[.string t210, .int .i64 t211, .slice Ao25 t212.length co25] 26 (0, 0)) (by (with_reducible repeat (first | refine blk_drewN ?_ _ | refine blk_drew ?_ | refine blk_alloc ?_ _)); exact BK216.out) hb); have n4_ := Aside0.mk (below_step (by repeat (first | (with_reducible first | exact HB.out | apply below_alloc | apply pw_below_drewN | apply below_drew1 | refine below_set ?_ GE206.out | refine below_set ?_ GE216.out) | exact HB.out)) hb); clear HO_207002; clear HO_217002; clear BK206; clear BK216; clear HB; have HO_207002 := n0_; have HO_217002 := n1_; have BK206 := n2_; have BK216 := n3_; have HB := n4_; clear n0_ n1_ n2_ n3_ n4_; (try clear hb); (try clear hb2); (try clear hk); (try clear hi)) | ((with_reducible refine gate_callee (f := 7) rfl ?_); refine goesL_ (some 82) rfl rfl Try.func7 (by kernel_rfl) rfl #[.slice A0 l0.length c0] rfl (by (try simp only [List.map_toArray, List.map_cons, List.map_nil]); first | done | rfl | (simp only [List.length_drop, List.length_take]; rfl)) ?_; (with_reducible refine (laws_toRefS.calls kj40 _ _ l0 t228 _ ?side1 ?side2 A67.out).mono ?_); (case side1 => repeat (first | exact (Kd.C_below HR0.out HB.out) | (with_reducible refine Kd.C_alloc ?_ _) | (with_reducible refine Kd.C_drewN ?_ _) | (with_reducible refine Kd.C_drew ?_))); (case side2 => exact HC0.out); rintro e w75 ⟨v229, rfl, ho0, hb⟩; refine ⟨_, rfl, ?_⟩; have n0_ := Aside0.mk (Kd.R_below (by (with_reducible repeat (first | apply Kd.R_alloc | apply Kd.R_drewN | apply Kd.R_drew)); exact HO_207002.out) hb); have n1_ := Aside0.mk (Kd.R_below (by (with_reducible repeat (first | apply Kd.R_alloc | apply Kd.R_drewN | apply Kd.R_drew)); exact HO_217002.out) hb); have n2_ := Aside0.mk (Kd.R_lower ho0 (below_size (by repeat (first | (with_reducible first | exact HB.out | apply below_alloc | apply pw_below_drewN | apply below_drew1 | refine below_set ?_ GE206.out | refine below_set ?_ GE216.out) | exact HB.out)))); have n3_ := Aside0.mk (blk_below (g := gb206) (o := .cells #[.string t200, .int .i64 t201, .slice Ao18 t202.length co18] 26 (0, 0)) (by (with_reducible repeat (first | refine blk_drewN ?_ _ | refine blk_drew ?_ | refine blk_alloc ?_ _)); exact BK206.out) hb); have n4_ := Aside0.mk (blk_below (g := gb216) (o := .cells #[.string t210, .int .i64 t211, .slice Ao25 t212.length co25] 26 (0, 0)) (by (with_reducible repeat (first | refine blk_drewN ?_ _ | refine blk_drew ?_ | refine blk_alloc ?_ _)); exact BK216.out) hb); have n5_ := Aside0.mk (below_step (by repeat (first | (with_reducible first | exact HB.out | apply below_alloc | apply pw_below_drewN | apply below_drew1 | refine below_set ?_ GE206.out | refine below_set ?_ GE216.out) | exact HB.out)) hb); clear HO_207002; clear HO_217002; clear BK206; clear BK216; clear HB; have HO_207002 := n0_; have HO_217002 := n1_; have HO230 := n2_; have BK206 := n3_; have BK216 := n4_; have HB := n5_; clear n0_ n1_ n2_ n3_ n4_ n5_; (try clear hb); (try clear hb2); (try clear hk); (try clear hi); (try clear ho0); obtain ⟨Ao76, co76, eo76⟩ := Kd.R_slice HO230.out; subst eo76) | ((with_reducible refine gate_callee (f := 8) rfl ?_); refine goesL_ (some 84) rfl rfl Try.func8 (by kernel_rfl) rfl #[.slice Ao76 t228.length co76, .string a1] rfl (by (try simp only [List.map_toArray, List.map_cons, List.map_nil]); first | done | rfl | (simp only [List.length_drop, List.length_take]; rfl)) ?_; (with_reducible refine (impl_NewWatch.calls kj40 _ _ t228 a1 t231 t232 t233 t236 _ ?side1 ?side2 A68.out).mono ?_); (case side1 => repeat (first | exact (Kd.R_reads' HO230.out).2.2 | (with_reducible refine Kd.C_alloc ?_ _) | (with_reducible refine Kd.C_drewN ?_ _) | (with_reducible refine Kd.C_drew ?_))); (case side2 => exact (Kd.R_reads' HO230.out).2.1); rintro e w77 ⟨v234, rfl, ho0, hb⟩; refine ⟨_, rfl, ?_⟩; have n0_ := Aside0.mk (Kd.R_elder' (by (with_reducible repeat (first | apply Kd.R_alloc | apply Kd.R_drewN | apply Kd.R_drew)); exact HO_207002.out) (Kd.R_base ho0) hb); have n1_ := Aside0.mk (Kd.R_elder' (by (with_reducible repeat (first | apply Kd.R_alloc | apply Kd.R_drewN | apply Kd.R_drew)); exact HO_217002.out) (Kd.R_base ho0) hb); have n2_ := Aside0.mk (Kd.R_below (by (with_reducible repeat (first | apply Kd.R_alloc | apply Kd.R_drewN | apply Kd.R_drew)); exact HO230.out) hb); have n3_ := Aside0.mk (Kd.R_lower (Kd.R_new' (Kd.R_new' ho0 (Kd.R_lt (by (with_reducible repeat (first | apply Kd.R_alloc | apply Kd.R_drewN | apply Kd.R_drew)); exact HO_207002.out))) (Kd.R_lt (by (with_reducible repeat (first | apply Kd.R_alloc | apply Kd.R_drewN | apply Kd.R_drew)); exact HO_217002.out))) (below_size (by repeat (first | (with_reducible first | exact HB.out | apply below_alloc | apply pw_below_drewN | apply below_drew1 | refine below_set ?_ GE206.out | refine below_set ?_ GE216.out) | exact HB.out)))); have n4_ := Aside0.mk (blk_below (g := gb206) (o := .cells #[.string t200, .int .i64 t201, .slice Ao18 t202.length co18] 26 (0, 0)) (by (with_reducible repeat (first | refine blk_drewN ?_ _ | refine blk_drew ?_ | refine blk_alloc ?_ _)); exact BK206.out) hb); have n5_ := Aside0.mk (blk_below (g := gb216) (o := .cells #[.string t210, .int .i64 t211, .slice Ao25 t212.length co25] 26 (0, 0)) (by (with_reducible repeat (first | refine blk_drewN ?_ _ | refine blk_drew ?_ | refine blk_alloc ?_ _)); exact BK216.out) hb); have n6_ := Aside0.mk (below_step (by repeat (first | (with_reducible first | exact HB.out | apply below_alloc | apply pw_below_drewN | apply below_drew1 | refine below_set ?_ GE206.out | refine below_set ?_ GE216.out) | exact HB.out)) hb); clear HO_207002; clear HO_217002; clear HO230; clear BK206; clear BK216; clear HB; have HO_207002 := n0_; have HO_217002 := n1_; have HO230 := n2_; have HO235 := n3_; have BK206 := n4_; have BK216 := n5_; have HB := n6_; clear n0_ n1_ n2_ n3_ n4_ n5_ n6_; (try clear hb); (try clear hb2); (try clear hk); (try clear hi); (try clear ho0)) | ((with_reducible refine gate_dst (N := 14) rfl ?_); refine box_event ?hg (N := 14) ?hd (cs := #[.string (⟨#[]⟩ : ByteArray), .int .i64 0, .slice none 0 0]) (t := 26) ?hr ?_; (case hd => rfl); (case hg => rfl); (case hr => first | (go_simp; done) | (go_simp; rfl)); intro gb237 hg w78 hbox hb; have n0_ := Aside0.mk (Kd.R_below (by (with_reducible repeat (first | apply Kd.R_alloc | apply Kd.R_drewN | apply Kd.R_drew)); exact HO_207002.out) hb); have n1_ := Aside0.mk (Kd.R_below (by (with_reducible repeat (first | apply Kd.R_alloc | apply Kd.R_drewN | apply Kd.R_drew)); exact HO_217002.out) hb); have n2_ := Aside0.mk (Kd.R_below (by (with_reducible repeat (first | apply Kd.R_alloc | apply Kd.R_drewN | apply Kd.R_drew)); exact HO230.out) hb); have n3_ := Aside0.mk (Kd.R_below (by (with_reducible repeat (first | apply Kd.R_alloc | apply Kd.R_drewN | apply Kd.R_drew)); exact HO235.out) hb); have n4_ := Aside0.mk (blk_below (g := gb206) (o := .cells #[.string t200, .int .i64 t201, .slice Ao18 t202.length co18] 26 (0, 0)) (by (with_reducible repeat (first | refine blk_drewN ?_ _ | refine blk_drew ?_ | refine blk_alloc ?_ _)); exact BK206.out) hb); have n5_ := Aside0.mk (blk_below (g := gb216) (o := .cells #[.string t210, .int .i64 t211, .slice Ao25 t212.length co25] 26 (0, 0)) (by (with_reducible repeat (first | refine blk_drewN ?_ _ | refine blk_drew ?_ | refine blk_alloc ?_ _)); exact BK216.out) hb); have n6_ := Aside0.mk (below_step (by repeat (first | (with_reducible first | exact HB.out | apply below_alloc | apply pw_below_drewN | apply below_drew1 | refine below_set ?_ GE206.out | refine below_set ?_ GE216.out) | exact HB.out)) hb); have n7_ := Aside0.mk (hbox); have n8_ := Aside0.mk ((by rw [hg]; exact (below_size (by repeat (first | (with_reducible first | exact HB.out | apply below_alloc | apply pw_below_drewN | apply below_drew1 | refine below_set ?_ GE206.out | refine below_set ?_ GE216.out) | exact HB.out))) : w.heap.size ≤ gb237)); have n9_ := Aside0.mk ((by rw [hg]; exact (below_size (by repeat (first | (with_reducible first | exact HB.out | apply below_alloc | apply pw_below_drewN | apply below_drew1 | refine below_set ?_ GE206.out | refine below_set ?_ GE216.out) | exact HB.out))) : w.heap.size ≤ gb237)); have n10_ := Aside0.mk ((by rw [hg]; exact Nat.ne_of_lt (blk_lt (g := gb206) (o := .cells #[.string t200, .int .i64 t201, .slice Ao18 t202.length co18] 26 (0, 0)) (by (with_reducible repeat (first | refine blk_drewN ?_ _ | refine blk_drew ?_ | refine blk_alloc ?_ _)); exact BK206.out)) : gb206 ≠ gb237)); have n11_ := Aside0.mk ((by rw [hg]; exact Nat.ne_of_gt (blk_lt (g := gb206) (o := .cells #[.string t200, .int .i64 t201, .slice Ao18 t202.length co18] 26 (0, 0)) (by (with_reducible repeat (first | refine blk_drewN ?_ _ | refine blk_drew ?_ | refine blk_alloc ?_ _)); exact BK206.out)) : gb237 ≠ gb206)); have n12_ := Aside0.mk ((by rw [hg]; exact Nat.ne_of_lt (blk_lt (g := gb216) (o := .cells #[.string t210, .int .i64 t211, .slice Ao25 t212.length co25] 26 (0, 0)) (by (with_reducible repeat (first | refine blk_drewN ?_ _ | refine blk_drew ?_ | refine blk_alloc ?_ _)); exact BK216.out)) : gb216 ≠ gb237)); have n13_ := Aside0.mk ((by rw [hg]; exact Nat.ne_of_gt (blk_lt (g := gb216) (o := .cells #[.string t210, .int .i64 t211, .slice Ao25 t212.length co25] 26 (0, 0)) (by (with_reducible repeat (first | refine blk_drewN ?_ _ | refine blk_drew ?_ | refine blk_alloc ?_ _)); exact BK216.out)) : gb237 ≠ gb216)); clear HO_207002; clear HO_217002; clear HO230; clear HO235; clear BK206; clear BK216; clear HB; have HO_207002 := n0_; have HO_217002 := n1_; have HO230 := n2_; have HO235 := n3_; have BK206 := n4_; have BK216 := n5_; have HB := n6_; have BK237 := n7_; have GW237 := n8_; have GE237 := n9_; have NB206_237 := n10_; have NB237_206 := n11_; have NB216_237 := n12_; have NB237_216 := n13_; clear n0_ n1_ n2_ n3_ n4_ n5_ n6_ n7_ n8_ n9_ n10_ n11_ n12_ n13_; clear hb hbox hg; have hnb79 := NB237_206.out; have hnc79 := NB206_237.out; have hnb80 := NB237_216.out; have hnc80 := NB216_237.out; have hcz81_0 : w78.cell? ⟨gb237, 0, none⟩ = some (.string (⟨#[]⟩ : ByteArray)) := (blk_cell BK237.out 0).trans rfl; have hcz81_1 : w78.cell? ⟨gb237, 1, none⟩ = some (.int .i64 0) := (blk_cell BK237.out 1).trans rfl; have hcz81_2 : w78.cell? ⟨gb237, 2, none⟩ = some (.slice none 0 0) := (blk_cell BK237.out 2).trans rfl; have hfz81_0 := blk_frozen BK237.out 0; have hfz81_1 := blk_frozen BK237.out 1; have hfz81_2 := blk_frozen BK237.out 2; obtain ⟨Ao82, co82, eo82⟩ := Kd.R_slice HO235.out; subst eo82))
                        (try simp only [Act.put, List.setIfInBounds_toArray, List.set_cons_zero, List.set_cons_succ])
                        go_cut [95] (fun v95 wc => ∃ (kq : Nat) (x95_68 : Bool), v95 = .bool x95_68 ∧ Aside0 (laws_FnExactNewWatch.j2 kq t225 x95_68 t210 t211 t226 = some true) ∧ Aside0 (kq ≤ kj40) ∧ Aside0 (Kd.R k73 73 wc w.heap.size (fun k_ => some k_ ≠ ((.slice Ao25 t212.length co25) : Value).ownBlock ∧ some k_ ≠ ((.slice Ao82 t233.length co82) : Value).ownBlock) (.slice Ao18 t202.length co18) t202) ∧ Aside0 (Kd.R k73 73 wc w.heap.size (fun k_ => some k_ ≠ ((.slice Ao18 t202.length co18) : Value).ownBlock ∧ some k_ ≠ ((.slice Ao82 t233.length co82) : Value).ownBlock) (.slice Ao25 t212.length co25) t226) ∧ Aside0 (Kd.R k73 73 wc w.heap.size (fun k_ => some k_ ≠ ((.slice Ao18 t202.length co18) : Value).ownBlock ∧ some k_ ≠ ((.slice Ao25 t212.length co25) : Value).ownBlock) (.slice Ao82 t233.length co82) t233) ∧ Aside0 (wc.heap[gb206]? = some (.cells #[.string t200, .int .i64 t201, (.slice Ao18 t202.length co18)] 26 (0, 0))) ∧ Aside0 (wc.heap[gb216]? = some (.cells #[.string t210, .int .i64 t211, (.slice Ao25 t212.length co25)] 26 (0, 0))) ∧ Aside0 (wc.heap[gb237]? = some (.cells #[.string t231, .int .i64 t232, (.slice Ao82 t233.length co82)] 26 (0, 0))) ∧ Aside0 (Below w.heap.size w wc))
                        case first =>
                          have H := HC69.out
                          clear HC69
                          replace H := Option.bind_eq_some_iff.mp H
                          obtain ⟨t238, A830, H⟩ := H
                          replace H : (if t238 = true then (laws_FnExactNewWatch.j2 kj40 t225 (t236 != t205) t210 t211 t226) else (laws_FnExactNewWatch.j2 kj40 t225 true t210 t211 t226)) = some true := H
                          have A83 := Aside0.mk A830
                          clear A830
                          by_cases c84 : t238 = true
                          · subst c84
                            have H1 : (laws_FnExactNewWatch.j2 kj40 t225 (t236 != t205) t210 t211 t226) = some true := by rw [if_pos rfl] at H; exact H
                            clear H
                            have H := H1
                            clear H1
                            have H' := Aside0.mk H
                            clear H
                            have hnb85 := NB237_206.out
                            have hnc85 := NB206_237.out
                            have hnb86 := NB237_216.out
                            have hnc86 := NB216_237.out
                            have hcz87_0 : w78.cell? ⟨gb237, 0, none⟩ = some (.string (⟨#[]⟩ : ByteArray)) := (blk_cell BK237.out 0).trans rfl
                            have hcz87_1 : w78.cell? ⟨gb237, 1, none⟩ = some (.int .i64 0) := (blk_cell BK237.out 1).trans rfl
                            have hcz87_2 : w78.cell? ⟨gb237, 2, none⟩ = some (.slice none 0 0) := (blk_cell BK237.out 2).trans rfl
                            have hfz87_0 := blk_frozen BK237.out 0
                            have hfz87_1 := blk_frozen BK237.out 1
                            have hfz87_2 := blk_frozen BK237.out 2
                            have hnb88 := NB206_216.out
                            have hnc88 := NB216_206.out
                            have hcz89_0 : w78.cell? ⟨gb206, 0, none⟩ = some (.string t200) := (blk_cell BK206.out 0).trans rfl
                            have hcz89_1 : w78.cell? ⟨gb206, 1, none⟩ = some (.int .i64 t201) := (blk_cell BK206.out 1).trans rfl
                            have hcz89_2 : w78.cell? ⟨gb206, 2, none⟩ = some (.slice Ao18 t202.length co18) := (blk_cell BK206.out 2).trans rfl
                            have hfz89_0 := blk_frozen BK206.out 0
                            have hfz89_1 := blk_frozen BK206.out 1
                            have hfz89_2 := blk_frozen BK206.out 2
                            go_wp2_with (first | ((with_reducible refine gate_callee (f := 9) rfl ?_); refine goesL_ (some 89) rfl rfl Try.func9 (by kernel_rfl) rfl #[.agg #[.string t231, .int .i64 t232, .slice Ao82 t233.length co82], .agg #[.string t200, .int .i64 t201, .slice Ao18 t202.length co18]] rfl (by (try simp only [List.map_toArray, List.map_cons, List.map_nil]); first | done | rfl | (simp only [List.length_drop, List.length_take]; rfl)) ?_; (with_reducible refine (laws_eqWatch.calls kj40 t231 t232 _ _ t233 t200 t201 _ _ t202 true _ ?side1 ?side2 ?side3 ?side4 A83.out).mono ?_); (case side1 => refine (Kd.R_reads' (e := 73) (base := w.heap.size) (ok := fun k_ => ((True ∧ some k_ ≠ (.slice Ao18 t202.length co18 : Value).ownBlock) ∧ some k_ ≠ (.slice Ao25 t212.length co25 : Value).ownBlock)) (n := t233.length) (c := co82) ?_).2.2; exact (by (with_reducible repeat (first | apply Kd.R_alloc | apply Kd.R_drewN | apply Kd.R_drew)); exact (Kd.R_mono (Kd.R_far (p := ⟨gb237, 2, none⟩) (Kd.R_far (p := ⟨gb237, 1, none⟩) (Kd.R_far (p := ⟨gb237, 0, none⟩) (Kd.R_types HO235.out BK237.out (by decide)) (fun _ hk => hk.2) (.string t231)) (fun _ hk => hk.2) (.int .i64 t232)) (fun _ hk => hk.2) (.slice Ao82 t233.length co82)) (fun _ h_ => h_.1)))); (case side2 => exact (Kd.R_reads' HO235.out).2.1); (case side3 => refine (Kd.R_reads' (e := 73) (base := w.heap.size) (ok := fun k_ => (some k_ ≠ (.slice Ao25 t212.length co25 : Value).ownBlock ∧ some k_ ≠ (.slice Ao82 t233.length co82 : Value).ownBlock)) (n := t202.length) (c := co18) ?_).2.2; exact (by (with_reducible repeat (first | apply Kd.R_alloc | apply Kd.R_drewN | apply Kd.R_drew)); exact (Kd.R_mono (Kd.R_far (p := ⟨gb237, 2, none⟩) (Kd.R_far (p := ⟨gb237, 1, none⟩) (Kd.R_far (p := ⟨gb237, 0, none⟩) (Kd.R_types HO_207002.out BK237.out (by decide)) (fun _ hk => hk.2) (.string t231)) (fun _ hk => hk.2) (.int .i64 t232)) (fun _ hk => hk.2) (.slice Ao82 t233.length co82)) (fun _ h_ => h_.1)))); (case side4 => exact (Kd.R_reads' HO_207002.out).2.1); rintro e w90 ⟨rfl, hb⟩; refine ⟨_, rfl, ?_⟩; have n0_ := Aside0.mk (Kd.R_below (by (with_reducible repeat (first | apply Kd.R_alloc | apply Kd.R_drewN | apply Kd.R_drew)); exact (Kd.R_mono (Kd.R_far (p := ⟨gb237, 2, none⟩) (Kd.R_far (p := ⟨gb237, 1, none⟩) (Kd.R_far (p := ⟨gb237, 0, none⟩) (Kd.R_types HO_207002.out BK237.out (by decide)) (fun _ hk => hk.2) (.string t231)) (fun _ hk => hk.2) (.int .i64 t232)) (fun _ hk => hk.2) (.slice Ao82 t233.length co82)) (fun _ h_ => h_.1))) hb); have n1_ := Aside0.mk (Kd.R_below (by (with_reducible repeat (first | apply Kd.R_alloc | apply Kd.R_drewN | apply Kd.R_drew)); exact (Kd.R_mono (Kd.R_far (p := ⟨gb237, 2, none⟩) (Kd.R_far (p := ⟨gb237, 1, none⟩) (Kd.R_far (p := ⟨gb237, 0, none⟩) (Kd.R_types HO_217002.out BK237.out (by decide)) (fun _ hk => hk.2) (.string t231)) (fun _ hk => hk.2) (.int .i64 t232)) (fun _ hk => hk.2) (.slice Ao82 t233.length co82)) (fun _ h_ => h_.1))) hb); have n2_ := Aside0.mk (Kd.R_below (by (with_reducible repeat (first | apply Kd.R_alloc | apply Kd.R_drewN | apply Kd.R_drew)); exact (Kd.R_mono (Kd.R_far (p := ⟨gb237, 2, none⟩) (Kd.R_far (p := ⟨gb237, 1, none⟩) (Kd.R_far (p := ⟨gb237, 0, none⟩) (Kd.R_types HO230.out BK237.out (by decide)) (fun _ hk => hk.2) (.string t231)) (fun _ hk => hk.2) (.int .i64 t232)) (fun _ hk => hk.2) (.slice Ao82 t233.length co82)) (fun _ h_ => h_.1))) hb); have n3_ := Aside0.mk (Kd.R_below (by (with_reducible repeat (first | apply Kd.R_alloc | apply Kd.R_drewN | apply Kd.R_drew)); exact (Kd.R_mono (Kd.R_far (p := ⟨gb237, 2, none⟩) (Kd.R_far (p := ⟨gb237, 1, none⟩) (Kd.R_far (p := ⟨gb237, 0, none⟩) (Kd.R_types HO235.out BK237.out (by decide)) (fun _ hk => hk.2) (.string t231)) (fun _ hk => hk.2) (.int .i64 t232)) (fun _ hk => hk.2) (.slice Ao82 t233.length co82)) (fun _ h_ => h_.1))) hb); have n4_ := Aside0.mk (blk_below (g := gb206) (o := .cells #[.string t200, .int .i64 t201, .slice Ao18 t202.length co18] 26 (0, 0)) (by (with_reducible repeat (first | refine blk_drewN ?_ _ | refine blk_drew ?_ | refine blk_alloc ?_ _)); refine blk_far ?_ NB206_237.out _; (with_reducible repeat (first | refine blk_drewN ?_ _ | refine blk_drew ?_ | refine blk_alloc ?_ _)); refine blk_far ?_ NB206_237.out _; (with_reducible repeat (first | refine blk_drewN ?_ _ | refine blk_drew ?_ | refine blk_alloc ?_ _)); refine blk_far ?_ NB206_237.out _; (with_reducible repeat (first | refine blk_drewN ?_ _ | refine blk_drew ?_ | refine blk_alloc ?_ _)); exact BK206.out) hb); have n5_ := Aside0.mk (blk_below (g := gb216) (o := .cells #[.string t210, .int .i64 t211, .slice Ao25 t212.length co25] 26 (0, 0)) (by (with_reducible repeat (first | refine blk_drewN ?_ _ | refine blk_drew ?_ | refine blk_alloc ?_ _)); refine blk_far ?_ NB216_237.out _; (with_reducible repeat (first | refine blk_drewN ?_ _ | refine blk_drew ?_ | refine blk_alloc ?_ _)); refine blk_far ?_ NB216_237.out _; (with_reducible repeat (first | refine blk_drewN ?_ _ | refine blk_drew ?_ | refine blk_alloc ?_ _)); refine blk_far ?_ NB216_237.out _; (with_reducible repeat (first | refine blk_drewN ?_ _ | refine blk_drew ?_ | refine blk_alloc ?_ _)); exact BK216.out) hb); have n6_ := Aside0.mk (blk_below (g := gb237) (o := .cells #[.string t231, .int .i64 t232, .slice Ao82 t233.length co82] 26 (0, 0)) (by (with_reducible repeat (first | refine blk_drewN ?_ _ | refine blk_drew ?_ | refine blk_alloc ?_ _)); refine blk_put (cs := #[.string t231, .int .i64 t232, .slice none 0 0]) ?_ 2 _ rfl; (with_reducible repeat (first | refine blk_drewN ?_ _ | refine blk_drew ?_ | refine blk_alloc ?_ _)); refine blk_put (cs := #[.string t231, .int .i64 0, .slice none 0 0]) ?_ 1 _ rfl; (with_reducible repeat (first | refine blk_drewN ?_ _ | refine blk_drew ?_ | refine blk_alloc ?_ _)); refine blk_put (cs := #[.string (⟨#[]⟩ : ByteArray), .int .i64 0, .slice none 0 0]) ?_ 0 _ rfl; (with_reducible repeat (first | refine blk_drewN ?_ _ | refine blk_drew ?_ | refine blk_alloc ?_ _)); exact BK237.out) hb); have n7_ := Aside0.mk (below_step (by repeat (first | (with_reducible first | exact HB.out | apply below_alloc | apply pw_below_drewN | apply below_drew1 | refine below_set ?_ GE206.out | refine below_set ?_ GE216.out | refine below_set ?_ GE237.out) | exact HB.out)) hb); clear HO_207002; clear HO_217002; clear HO230; clear HO235; clear BK206; clear BK216; clear BK237; clear HB; have HO_207002 := n0_; have HO_217002 := n1_; have HO230 := n2_; have HO235 := n3_; have BK206 := n4_; have BK216 := n5_; have BK237 := n6_; have HB := n7_; clear n0_ n1_ n2_ n3_ n4_ n5_ n6_ n7_; (try clear hb); (try clear hb2); (try clear hk); (try clear hi)))
                            go_meet
                            case rel => exact ⟨_, ((t236 != t205)), (by first | rfl | (simp; done) | (simp; exact isEmpty_bne_ _) | (simp [*]; done)), H', ⟨by have := HJ10.out; have := HJ40.out; first | omega | exact Nat.le_refl _⟩, ⟨by (with_reducible repeat (first | apply Kd.R_alloc | apply Kd.R_drewN | apply Kd.R_drew)); exact HO_207002.out⟩, ⟨by (with_reducible repeat (first | apply Kd.R_alloc | apply Kd.R_drewN | apply Kd.R_drew)); exact HO_217002.out⟩, ⟨by (with_reducible repeat (first | apply Kd.R_alloc | apply Kd.R_drewN | apply Kd.R_drew)); exact Kd.R_mono HO235.out (fun _ hk => ⟨hk.1.2, hk.2⟩)⟩, ⟨by (with_reducible repeat (first | refine blk_drewN ?_ _ | refine blk_drew ?_ | refine blk_alloc ?_ _)); exact BK206.out⟩, ⟨by (with_reducible repeat (first | refine blk_drewN ?_ _ | refine blk_drew ?_ | refine blk_alloc ?_ _)); exact BK216.out⟩, ⟨by (with_reducible repeat (first | refine blk_drewN ?_ _ | refine blk_drew ?_ | refine blk_alloc ?_ _)); exact BK237.out⟩, ⟨by repeat (first | (with_reducible first | exact HB.out | apply below_alloc | apply pw_below_drewN | apply below_drew1 | refine below_set ?_ GE206.out | refine below_set ?_ GE216.out | refine below_set ?_ GE237.out) | exact HB.out)⟩⟩
                          · replace c84 := Bool.eq_false_iff.mpr c84
                            subst c84
                            have H1 : (laws_FnExactNewWatch.j2 kj40 t225 true t210 t211 t226) = some true := by rw [if_neg (show ¬ (false = true) by decide)] at H; exact H
                            clear H
                            have H := H1
                            clear H1
                            have H' := Aside0.mk H
                            clear H
                            have hnb91 := NB237_206.out
                            have hnc91 := NB206_237.out
                            have hnb92 := NB237_216.out
                            have hnc92 := NB216_237.out
                            have hcz93_0 : w78.cell? ⟨gb237, 0, none⟩ = some (.string (⟨#[]⟩ : ByteArray)) := (blk_cell BK237.out 0).trans rfl
                            have hcz93_1 : w78.cell? ⟨gb237, 1, none⟩ = some (.int .i64 0) := (blk_cell BK237.out 1).trans rfl
                            have hcz93_2 : w78.cell? ⟨gb237, 2, none⟩ = some (.slice none 0 0) := (blk_cell BK237.out 2).trans rfl
                            have hfz93_0 := blk_frozen BK237.out 0
                            have hfz93_1 := blk_frozen BK237.out 1
                            have hfz93_2 := blk_frozen BK237.out 2
                            have hnb94 := NB206_216.out
                            have hnc94 := NB216_206.out
                            have hcz95_0 : w78.cell? ⟨gb206, 0, none⟩ = some (.string t200) := (blk_cell BK206.out 0).trans rfl
                            have hcz95_1 : w78.cell? ⟨gb206, 1, none⟩ = some (.int .i64 t201) := (blk_cell BK206.out 1).trans rfl
                            have hcz95_2 : w78.cell? ⟨gb206, 2, none⟩ = some (.slice Ao18 t202.length co18) := (blk_cell BK206.out 2).trans rfl
                            have hfz95_0 := blk_frozen BK206.out 0
                            have hfz95_1 := blk_frozen BK206.out 1
                            have hfz95_2 := blk_frozen BK206.out 2
                            go_wp2_with (first | ((with_reducible refine gate_callee (f := 9) rfl ?_); refine goesL_ (some 89) rfl rfl Try.func9 (by kernel_rfl) rfl #[.agg #[.string t231, .int .i64 t232, .slice Ao82 t233.length co82], .agg #[.string t200, .int .i64 t201, .slice Ao18 t202.length co18]] rfl (by (try simp only [List.map_toArray, List.map_cons, List.map_nil]); first | done | rfl | (simp only [List.length_drop, List.length_take]; rfl)) ?_; (with_reducible refine (laws_eqWatch.calls kj40 t231 t232 _ _ t233 t200 t201 _ _ t202 false _ ?side1 ?side2 ?side3 ?side4 A83.out).mono ?_); (case side1 => refine (Kd.R_reads' (e := 73) (base := w.heap.size) (ok := fun k_ => ((True ∧ some k_ ≠ (.slice Ao18 t202.length co18 : Value).ownBlock) ∧ some k_ ≠ (.slice Ao25 t212.length co25 : Value).ownBlock)) (n := t233.length) (c := co82) ?_).2.2; exact (by (with_reducible repeat (first | apply Kd.R_alloc | apply Kd.R_drewN | apply Kd.R_drew)); exact (Kd.R_mono (Kd.R_far (p := ⟨gb237, 2, none⟩) (Kd.R_far (p := ⟨gb237, 1, none⟩) (Kd.R_far (p := ⟨gb237, 0, none⟩) (Kd.R_types HO235.out BK237.out (by decide)) (fun _ hk => hk.2) (.string t231)) (fun _ hk => hk.2) (.int .i64 t232)) (fun _ hk => hk.2) (.slice Ao82 t233.length co82)) (fun _ h_ => h_.1)))); (case side2 => exact (Kd.R_reads' HO235.out).2.1); (case side3 => refine (Kd.R_reads' (e := 73) (base := w.heap.size) (ok := fun k_ => (some k_ ≠ (.slice Ao25 t212.length co25 : Value).ownBlock ∧ some k_ ≠ (.slice Ao82 t233.length co82 : Value).ownBlock)) (n := t202.length) (c := co18) ?_).2.2; exact (by (with_reducible repeat (first | apply Kd.R_alloc | apply Kd.R_drewN | apply Kd.R_drew)); exact (Kd.R_mono (Kd.R_far (p := ⟨gb237, 2, none⟩) (Kd.R_far (p := ⟨gb237, 1, none⟩) (Kd.R_far (p := ⟨gb237, 0, none⟩) (Kd.R_types HO_207002.out BK237.out (by decide)) (fun _ hk => hk.2) (.string t231)) (fun _ hk => hk.2) (.int .i64 t232)) (fun _ hk => hk.2) (.slice Ao82 t233.length co82)) (fun _ h_ => h_.1)))); (case side4 => exact (Kd.R_reads' HO_207002.out).2.1); rintro e w96 ⟨rfl, hb⟩; refine ⟨_, rfl, ?_⟩; have n0_ := Aside0.mk (Kd.R_below (by (with_reducible repeat (first | apply Kd.R_alloc | apply Kd.R_drewN | apply Kd.R_drew)); exact (Kd.R_mono (Kd.R_far (p := ⟨gb237, 2, none⟩) (Kd.R_far (p := ⟨gb237, 1, none⟩) (Kd.R_far (p := ⟨gb237, 0, none⟩) (Kd.R_types HO_207002.out BK237.out (by decide)) (fun _ hk => hk.2) (.string t231)) (fun _ hk => hk.2) (.int .i64 t232)) (fun _ hk => hk.2) (.slice Ao82 t233.length co82)) (fun _ h_ => h_.1))) hb); have n1_ := Aside0.mk (Kd.R_below (by (with_reducible repeat (first | apply Kd.R_alloc | apply Kd.R_drewN | apply Kd.R_drew)); exact (Kd.R_mono (Kd.R_far (p := ⟨gb237, 2, none⟩) (Kd.R_far (p := ⟨gb237, 1, none⟩) (Kd.R_far (p := ⟨gb237, 0, none⟩) (Kd.R_types HO_217002.out BK237.out (by decide)) (fun _ hk => hk.2) (.string t231)) (fun _ hk => hk.2) (.int .i64 t232)) (fun _ hk => hk.2) (.slice Ao82 t233.length co82)) (fun _ h_ => h_.1))) hb); have n2_ := Aside0.mk (Kd.R_below (by (with_reducible repeat (first | apply Kd.R_alloc | apply Kd.R_drewN | apply Kd.R_drew)); exact (Kd.R_mono (Kd.R_far (p := ⟨gb237, 2, none⟩) (Kd.R_far (p := ⟨gb237, 1, none⟩) (Kd.R_far (p := ⟨gb237, 0, none⟩) (Kd.R_types HO230.out BK237.out (by decide)) (fun _ hk => hk.2) (.string t231)) (fun _ hk => hk.2) (.int .i64 t232)) (fun _ hk => hk.2) (.slice Ao82 t233.length co82)) (fun _ h_ => h_.1))) hb); have n3_ := Aside0.mk (Kd.R_below (by (with_reducible repeat (first | apply Kd.R_alloc | apply Kd.R_drewN | apply Kd.R_drew)); exact (Kd.R_mono (Kd.R_far (p := ⟨gb237, 2, none⟩) (Kd.R_far (p := ⟨gb237, 1, none⟩) (Kd.R_far (p := ⟨gb237, 0, none⟩) (Kd.R_types HO235.out BK237.out (by decide)) (fun _ hk => hk.2) (.string t231)) (fun _ hk => hk.2) (.int .i64 t232)) (fun _ hk => hk.2) (.slice Ao82 t233.length co82)) (fun _ h_ => h_.1))) hb); have n4_ := Aside0.mk (blk_below (g := gb206) (o := .cells #[.string t200, .int .i64 t201, .slice Ao18 t202.length co18] 26 (0, 0)) (by (with_reducible repeat (first | refine blk_drewN ?_ _ | refine blk_drew ?_ | refine blk_alloc ?_ _)); refine blk_far ?_ NB206_237.out _; (with_reducible repeat (first | refine blk_drewN ?_ _ | refine blk_drew ?_ | refine blk_alloc ?_ _)); refine blk_far ?_ NB206_237.out _; (with_reducible repeat (first | refine blk_drewN ?_ _ | refine blk_drew ?_ | refine blk_alloc ?_ _)); refine blk_far ?_ NB206_237.out _; (with_reducible repeat (first | refine blk_drewN ?_ _ | refine blk_drew ?_ | refine blk_alloc ?_ _)); exact BK206.out) hb); have n5_ := Aside0.mk (blk_below (g := gb216) (o := .cells #[.string t210, .int .i64 t211, .slice Ao25 t212.length co25] 26 (0, 0)) (by (with_reducible repeat (first | refine blk_drewN ?_ _ | refine blk_drew ?_ | refine blk_alloc ?_ _)); refine blk_far ?_ NB216_237.out _; (with_reducible repeat (first | refine blk_drewN ?_ _ | refine blk_drew ?_ | refine blk_alloc ?_ _)); refine blk_far ?_ NB216_237.out _; (with_reducible repeat (first | refine blk_drewN ?_ _ | refine blk_drew ?_ | refine blk_alloc ?_ _)); refine blk_far ?_ NB216_237.out _; (with_reducible repeat (first | refine blk_drewN ?_ _ | refine blk_drew ?_ | refine blk_alloc ?_ _)); exact BK216.out) hb); have n6_ := Aside0.mk (blk_below (g := gb237) (o := .cells #[.string t231, .int .i64 t232, .slice Ao82 t233.length co82] 26 (0, 0)) (by (with_reducible repeat (first | refine blk_drewN ?_ _ | refine blk_drew ?_ | refine blk_alloc ?_ _)); refine blk_put (cs := #[.string t231, .int .i64 t232, .slice none 0 0]) ?_ 2 _ rfl; (with_reducible repeat (first | refine blk_drewN ?_ _ | refine blk_drew ?_ | refine blk_alloc ?_ _)); refine blk_put (cs := #[.string t231, .int .i64 0, .slice none 0 0]) ?_ 1 _ rfl; (with_reducible repeat (first | refine blk_drewN ?_ _ | refine blk_drew ?_ | refine blk_alloc ?_ _)); refine blk_put (cs := #[.string (⟨#[]⟩ : ByteArray), .int .i64 0, .slice none 0 0]) ?_ 0 _ rfl; (with_reducible repeat (first | refine blk_drewN ?_ _ | refine blk_drew ?_ | refine blk_alloc ?_ _)); exact BK237.out) hb); have n7_ := Aside0.mk (below_step (by repeat (first | (with_reducible first | exact HB.out | apply below_alloc | apply pw_below_drewN | apply below_drew1 | refine below_set ?_ GE206.out | refine below_set ?_ GE216.out | refine below_set ?_ GE237.out) | exact HB.out)) hb); clear HO_207002; clear HO_217002; clear HO230; clear HO235; clear BK206; clear BK216; clear BK237; clear HB; have HO_207002 := n0_; have HO_217002 := n1_; have HO230 := n2_; have HO235 := n3_; have BK206 := n4_; have BK216 := n5_; have BK237 := n6_; have HB := n7_; clear n0_ n1_ n2_ n3_ n4_ n5_ n6_ n7_; (try clear hb); (try clear hb2); (try clear hk); (try clear hi)))
                            go_meet
                            case rel => exact ⟨_, (true), (by first | rfl | (simp; done) | (simp; exact isEmpty_bne_ _) | (simp [*]; done)), H', ⟨by have := HJ10.out; have := HJ40.out; first | omega | exact Nat.le_refl _⟩, ⟨by (with_reducible repeat (first | apply Kd.R_alloc | apply Kd.R_drewN | apply Kd.R_drew)); exact HO_207002.out⟩, ⟨by (with_reducible repeat (first | apply Kd.R_alloc | apply Kd.R_drewN | apply Kd.R_drew)); exact HO_217002.out⟩, ⟨by (with_reducible repeat (first | apply Kd.R_alloc | apply Kd.R_drewN | apply Kd.R_drew)); exact Kd.R_mono HO235.out (fun _ hk => ⟨hk.1.2, hk.2⟩)⟩, ⟨by (with_reducible repeat (first | refine blk_drewN ?_ _ | refine blk_drew ?_ | refine blk_alloc ?_ _)); exact BK206.out⟩, ⟨by (with_reducible repeat (first | refine blk_drewN ?_ _ | refine blk_drew ?_ | refine blk_alloc ?_ _)); exact BK216.out⟩, ⟨by (with_reducible repeat (first | refine blk_drewN ?_ _ | refine blk_drew ?_ | refine blk_alloc ?_ _)); exact BK237.out⟩, ⟨by repeat (first | (with_reducible first | exact HB.out | apply below_alloc | apply pw_below_drewN | apply below_drew1 | refine below_set ?_ GE206.out | refine below_set ?_ GE216.out | refine below_set ?_ GE237.out) | exact HB.out)⟩⟩
                        case rest =>
                          clear HC69
                          try clear c1
                          try clear c2
                          try clear p2
                          try clear c3
                          try clear c3b0
                          try clear c3b1
                          try clear c4
                          try clear c5
                          try clear c5b0
                          try clear c6
                          try clear c7
                          try clear c8
                          try clear c9
                          try clear c10
                          try clear c11
                          try clear c12
                          try clear c13
                          try clear c23
                          try clear c27
                          try clear c28
                          try clear c32
                          try clear c36
                          try clear c39
                          try clear c46
                          try clear c46b0
                          try clear c48
                          try clear c49
                          try clear c53
                          try clear c57
                          try clear c60
                          try clear c60b0
                          try clear c61
                          try clear c66
                          try clear c66b0
                          try clear c66b1
                          try clear c70
                          try clear c79
                          try clear c80
                          try clear c84
                          try clear c85
                          try clear c86
                          try clear c88
                          try clear c91
                          try clear c92
                          try clear c94
                          try clear hcz17_0
                          try clear hcz17_1
                          try clear hcz17_2
                          try clear hcz24_0
                          try clear hcz24_1
                          try clear hcz24_2
                          try clear hcz29_0
                          try clear hcz29_1
                          try clear hcz29_2
                          try clear hcz30_0
                          try clear hcz30_1
                          try clear hcz30_2
                          try clear hcz33_0
                          try clear hcz33_1
                          try clear hcz33_2
                          try clear hcz34_0
                          try clear hcz34_1
                          try clear hcz34_2
                          try clear hcz50_0
                          try clear hcz50_1
                          try clear hcz50_2
                          try clear hcz51_0
                          try clear hcz51_1
                          try clear hcz51_2
                          try clear hcz54_0
                          try clear hcz54_1
                          try clear hcz54_2
                          try clear hcz55_0
                          try clear hcz55_1
                          try clear hcz55_2
                          try clear hcz62_0
                          try clear hcz62_1
                          try clear hcz62_2
                          try clear hcz64_0
                          try clear hcz64_1
                          try clear hcz64_2
                          try clear hcz71_0
                          try clear hcz71_1
                          try clear hcz71_2
                          try clear hcz73_0
                          try clear hcz73_1
                          try clear hcz73_2
                          try clear hcz81_0
                          try clear hcz81_1
                          try clear hcz81_2
                          try clear hcz87_0
                          try clear hcz87_1
                          try clear hcz87_2
                          try clear hcz89_0
                          try clear hcz89_1
                          try clear hcz89_2
                          try clear hcz93_0
                          try clear hcz93_1
                          try clear hcz93_2
                          try clear hcz95_0
                          try clear hcz95_1
                          try clear hcz95_2
                          try clear hfz17_0
                          try clear hfz17_1
                          try clear hfz17_2
                          try clear hfz24_0
                          try clear hfz24_1
                          try clear hfz24_2
                          try clear hfz29_0
                          try clear hfz29_1
                          try clear hfz29_2
                          try clear hfz30_0
                          try clear hfz30_1
                          try clear hfz30_2
                          try clear hfz33_0
                          try clear hfz33_1
                          try clear hfz33_2
                          try clear hfz34_0
                          try clear hfz34_1
                          try clear hfz34_2
                          try clear hfz50_0
                          try clear hfz50_1
                          try clear hfz50_2
                          try clear hfz51_0
                          try clear hfz51_1
                          try clear hfz51_2
                          try clear hfz54_0
                          try clear hfz54_1
                          try clear hfz54_2
                          try clear hfz55_0
                          try clear hfz55_1
                          try clear hfz55_2
                          try clear hfz62_0
                          try clear hfz62_1
                          try clear hfz62_2
                          try clear hfz64_0
                          try clear hfz64_1
                          try clear hfz64_2
                          try clear hfz71_0
                          try clear hfz71_1
                          try clear hfz71_2
                          try clear hfz73_0
                          try clear hfz73_1
                          try clear hfz73_2
                          try clear hfz81_0
                          try clear hfz81_1
                          try clear hfz81_2
                          try clear hfz87_0
                          try clear hfz87_1
                          try clear hfz87_2
                          try clear hfz89_0
                          try clear hfz89_1
                          try clear hfz89_2
                          try clear hfz93_0
                          try clear hfz93_1
                          try clear hfz93_2
                          try clear hfz95_0
                          try clear hfz95_1
                          try clear hfz95_2
                          try clear p2
                          obtain ⟨kq, x95_68, rfl, HA, HJ68, HO_207002, HO_217002, HO_238002, BK206, BK216, BK237, HB⟩ := hcut
                          have hl217002_68 := (Kd.R_reads' HO_217002.out).1
                          rw [hl217002_68] at HO_217002
                          (try simp only [hl217002_68])
                          (try simp only [hl217002_68] at BK206)
                          (try simp only [hl217002_68] at BK216)
                          (try simp only [hl217002_68] at BK237)
                          (try simp only [hl217002_68] at HO_207002)
                          (try simp only [hl217002_68] at HO_238002)
                          cases kq with
                          | zero => exact absurd HA.out (by simp [laws_FnExactNewWatch.j2])
                          | succ kj68 =>
                            have H := HA.out
                            clear HA
                            simp only [laws_FnExactNewWatch.j2] at H
                            by_cases c97 : x95_68 = true
                            · subst c97
                              have H1 : (some false) = some true := by rw [if_pos rfl] at H; exact H
                              exact absurd H1 (by simp)
                            · replace c97 := Bool.eq_false_iff.mpr c97
                              subst c97
                              have H1 : ((laws_heldWatch.f kj68 t210 t211 t226 1).bind fun t239 => (if t239 < 0 then (some false) else (if t239 = t225 then (some true) else (some false)))) = some true := by rw [if_neg (show ¬ (false = true) by decide)] at H; exact H
                              clear H
                              have H := H1
                              clear H1
                              replace H := Option.bind_eq_some_iff.mp H
                              obtain ⟨t239, A980, H⟩ := H
                              replace H : (if t239 < 0 then (some false) else (if t239 = t225 then (some true) else (some false))) = some true := H
                              have A98 := Aside0.mk A980
                              clear A980
                              by_cases c99 : t239 < 0
                              · rw [if_pos c99] at H
                                exact absurd H (by simp)
                              · rw [if_neg c99] at H
                                have c99b0 : decide (t239 < 0) = false := decide_eq_false c99
                                clear c99
                                by_cases c104 : t239 = t225
                                · rw [if_pos c104] at H
                                  have c104b0 : (t239 == t225) = true := beq_iff_eq.mpr c104
                                  have c104b1 : (t239 != t225) = false := bne_eq_false_iff_eq.mpr c104
                                  clear c104
                                  clear H
                                  have hnb105 := NB216_206.out
                                  have hnc105 := NB206_216.out
                                  have hnb106 := NB216_237.out
                                  have hnc106 := NB237_216.out
                                  have hcz107_0 : wc.cell? ⟨gb216, 0, none⟩ = some (.string t210) := (blk_cell BK216.out 0).trans rfl
                                  have hcz107_1 : wc.cell? ⟨gb216, 1, none⟩ = some (.int .i64 t211) := (blk_cell BK216.out 1).trans rfl
                                  have hcz107_2 : wc.cell? ⟨gb216, 2, none⟩ = some (.slice Ao25 t226.length co25) := (blk_cell BK216.out 2).trans rfl
                                  have hfz107_0 := blk_frozen BK216.out 0
                                  have hfz107_1 := blk_frozen BK216.out 1
                                  have hfz107_2 := blk_frozen BK216.out 2
                                  go_wp2_with (first | ((with_reducible refine gate_callee (f := 13) rfl ?_); refine goesL_ (some 98) rfl rfl Try.func13 (by kernel_rfl) rfl #[.agg #[.string t210, .int .i64 t211, .slice Ao25 t226.length co25], .int .i64 1] rfl (by (try simp only [List.map_toArray, List.map_cons, List.map_nil]); first | done | rfl | (simp only [List.length_drop, List.length_take]; rfl)) ?_; (with_reducible refine (laws_heldWatch.calls kj68 t210 t211 _ _ t226 1 t239 _ ?side1 ?side2 A98.out).mono ?_); (case side1 => repeat (first | exact (Kd.R_reads' HO_217002.out).2.2 | (with_reducible refine Kd.C_alloc ?_ _) | (with_reducible refine Kd.C_drewN ?_ _) | (with_reducible refine Kd.C_drew ?_))); (case side2 => exact (Kd.R_reads' HO_217002.out).2.1); rintro e w108 ⟨rfl, hb⟩; refine ⟨_, rfl, ?_⟩; have n0_ := Aside0.mk (Kd.R_below (by (with_reducible repeat (first | apply Kd.R_alloc | apply Kd.R_drewN | apply Kd.R_drew)); exact HO_207002.out) hb); have n1_ := Aside0.mk (Kd.R_below (by (with_reducible repeat (first | apply Kd.R_alloc | apply Kd.R_drewN | apply Kd.R_drew)); exact HO_217002.out) hb); have n2_ := Aside0.mk (Kd.R_below (by (with_reducible repeat (first | apply Kd.R_alloc | apply Kd.R_drewN | apply Kd.R_drew)); exact HO_238002.out) hb); have n3_ := Aside0.mk (blk_below (g := gb206) (o := .cells #[.string t200, .int .i64 t201, .slice Ao18 t202.length co18] 26 (0, 0)) (by (with_reducible repeat (first | refine blk_drewN ?_ _ | refine blk_drew ?_ | refine blk_alloc ?_ _)); exact BK206.out) hb); have n4_ := Aside0.mk (blk_below (g := gb216) (o := .cells #[.string t210, .int .i64 t211, .slice Ao25 t226.length co25] 26 (0, 0)) (by (with_reducible repeat (first | refine blk_drewN ?_ _ | refine blk_drew ?_ | refine blk_alloc ?_ _)); exact BK216.out) hb); have n5_ := Aside0.mk (blk_below (g := gb237) (o := .cells #[.string t231, .int .i64 t232, .slice Ao82 t233.length co82] 26 (0, 0)) (by (with_reducible repeat (first | refine blk_drewN ?_ _ | refine blk_drew ?_ | refine blk_alloc ?_ _)); exact BK237.out) hb); have n6_ := Aside0.mk (below_step (by repeat (first | (with_reducible first | exact HB.out | apply below_alloc | apply pw_below_drewN | apply below_drew1 | refine below_set ?_ GE206.out | refine below_set ?_ GE216.out | refine below_set ?_ GE237.out) | exact HB.out)) hb); clear HO_207002; clear HO_217002; clear HO_238002; clear BK206; clear BK216; clear BK237; clear HB; have HO_207002 := n0_; have HO_217002 := n1_; have HO_238002 := n2_; have BK206 := n3_; have BK216 := n4_; have BK237 := n5_; have HB := n6_; clear n0_ n1_ n2_ n3_ n4_ n5_ n6_; (try clear hb); (try clear hb2); (try clear hk); (try clear hi)))
                                  go_ret
                                  exact ⟨by first | rfl | (simp [errW_none, errW_some] <;> rfl) | (simp [*, errW_none, errW_some] <;> rfl), by repeat (first | (with_reducible first | exact HB.out | apply below_alloc | apply pw_below_drewN | apply below_drew1 | refine below_set ?_ GE206.out | refine below_set ?_ GE216.out | refine below_set ?_ GE237.out) | exact HB.out)⟩
                                · rw [if_neg c104] at H
                                  exact absurd H (by simp)
                      · rw [if_neg c66] at H
                        exact absurd H (by simp)
            · replace c39 := Bool.eq_false_iff.mpr c39
              subst c39
              have H1 : (some false) = some true := by rw [if_neg (show ¬ (false = true) by decide)] at H; exact H
              exact absurd H1 (by simp)
end Go.Proofs.Ytdcjmldcmlmcdaa.Q
end

section
namespace Go.Proofs.Ytdcjmldcmlmcdaa.Q
open Go.RowKit Go.Proofs.YtdcjmldcmlmcdaaW.PrintWords Go.Proofs.YtdcjmldcmlmcdaaW.PrintLast Go.Proofs.YtdcjmldcmlmcdaaW.PrintMore
attribute [local go_sem] max2_int min2_int max_two min_two max_three min_three max_four min_four   -- for this text's walks alone
set_option linter.unusedVariables false
set_option linter.unusedSimpArgs false
attribute [local go_sem] bin_leq bin_gtr bin_geq
def Opens {α : Type} (P : Program) (d : Kd α) (t : TypeId) (G : α → Prop) : Prop :=
  P.cellsOf t = d.sz ∧ ∀ {H : Type} (enc : TypeId × Value → H) (w : World) (base : Nat) (spare : Nat → Bool) (held : Bool) (fuel : Nat) (cs : List Value) (x : DataW H × List MemPlace),
    DataW.trod enc P w base spare held fuel t cs = some x → ∃ v, d.K w v cs ∧ G v
theorem add_twice (a : Addr) (m i : Nat) : (a.add m).add i = a.add (m + i) := by
  unfold Addr.add
  by_cases h1 : m = 0 <;> by_cases h2 : i = 0 <;> simp_all [Nat.add_assoc]
theorem opens_int {P : Program} {t : TypeId} {k : IntKind} (ht : P.underlying t = some (.int k)) (hc : P.cellsOf t = 1) : Opens P (Kd.int k) t (fun n => (Lit.int k n).wf = true) := by
  refine ⟨hc, fun enc w base spare held fuel cs x h => ?_⟩
  cases fuel with
  | zero => simp [DataW.trod] at h
  | succ n =>
    unfold DataW.trod at h
    rw [ht] at h
    split at h <;> simp_all
    obtain ⟨⟨rfl, h1⟩, _⟩ := h
    exact ⟨_, rfl, h1⟩
theorem opens_bool {P : Program} {t : TypeId} (ht : P.underlying t = some .bool) (hc : P.cellsOf t = 1) : Opens P Kd.bool t (fun _ => True) := by
  refine ⟨hc, fun enc w base spare held fuel cs x h => ?_⟩
  cases fuel with
  | zero => simp [DataW.trod] at h
  | succ n =>
    unfold DataW.trod at h
    rw [ht] at h
    split at h <;> simp_all
    rename_i b
    cases b
    · exact .inl rfl
    · exact .inr rfl
theorem opens_string {P : Program} {t : TypeId} (ht : P.underlying t = some .string) (hc : P.cellsOf t = 1) : Opens P Kd.string t (fun s => s.size ≤ 9223372036854775807) := by
  refine ⟨hc, fun enc w base spare held fuel cs x h => ?_⟩
  cases fuel with
  | zero => simp [DataW.trod] at h
  | succ n =>
    unfold DataW.trod at h
    rw [ht] at h
    split at h <;> simp_all
    exact ⟨_, rfl, h.1⟩
theorem list_of {α : Type} {Q : Nat → α → Prop} : ∀ n, (∀ i, i < n → ∃ v, Q i v) → ∃ l : List α, l.length = n ∧ ∀ i v, l[i]? = some v → Q i v
  | 0, _ => ⟨[], rfl, fun i v h => by simp at h⟩
  | n + 1, h => by
    obtain ⟨l, hl, hq⟩ := list_of n (fun i hi => h i (by omega))
    obtain ⟨v, hv⟩ := h n (by omega)
    refine ⟨l ++ [v], by simp [hl], fun i u hu => ?_⟩
    by_cases hi : i < l.length
    · rw [List.getElem?_append_left hi] at hu
      exact hq i u hu
    · have hi2 : i = l.length := by
        have := (List.getElem?_eq_some_iff.1 hu).1
        rw [List.length_append, List.length_singleton] at this
        omega
      subst hi2
      have hu' : v = u := by simpa using hu
      subst hu'
      rw [hl]
      exact hv
theorem opens_slice {α : Type} {P : Program} {d : Kd α} {t e : TypeId} {G : α → Prop} (ht : P.underlying t = some (.slice e)) (hc : P.cellsOf t = 1) (O : Opens P d e G) :
    Opens P (Kd.slice e d) t (fun l => l.length ≤ 9223372036854775807 ∧ ∀ x, x ∈ l → G x) := by
  refine ⟨hc, fun enc w base spare held fuel cs x h => ?_⟩
  rcases DataW.trod_slice ht h with ⟨rfl, _⟩ | ⟨a, len, cap, elems, rest, n, _, rfl, _, hb, hl, hm, hlen, hel, _, _⟩
  · exact ⟨[], ⟨none, 0, rfl, Nat.le_refl _, Kd.C_nil d w⟩, by simp, fun x hx => by simp at hx⟩
  · have each : ∀ i, i < len → ∃ v : α, (∃ c, c.length = d.sz ∧ d.K w v c ∧ ∀ j u, c[j]? = some u → w.cell? (a.add (i * d.sz + j)) = some u) ∧ G v := by
      intro i hi
      have h1 := hel i hi
      have h2 : elems[i]? = some (elems[i]'(by omega)) := List.getElem?_eq_getElem (by omega)
      rw [h2, Option.bind_eq_some_iff] at h1
      obtain ⟨c, hcc, htr⟩ := h1
      obtain ⟨v, hK, hG⟩ := O.2 enc w base spare held n c _ htr
      obtain ⟨_, hcl, hcells⟩ := World.cells?_some hcc
      refine ⟨v, ⟨c, d.K_len hK, hK, fun j u hu => ?_⟩, hG⟩
      have hj : j < c.length := (List.getElem?_eq_some_iff.1 hu).1
      have := hcells j (by omega)
      rw [hu, add_twice, O.1] at this
      exact this
    obtain ⟨l, hll, hq⟩ := list_of len each
    refine ⟨l, ⟨some a, cap, by rw [hll], by omega, hll ▸ ?_⟩, by unfold maxLen at hm; omega, fun x hx => ?_⟩
    · refine ⟨hll, by unfold maxLen at hm; omega, fun hp => ⟨a, rfl, fun j p hj => ?_⟩⟩
      obtain ⟨c, h1, h2, h3⟩ := (hq j p hj).1
      exact ⟨c, h1, h2, h3⟩
    · obtain ⟨i, hi, rfl⟩ := List.mem_iff_getElem.mp hx
      exact (hq i _ (List.getElem?_eq_getElem hi)).2
theorem open_row {α : Type} {P : Program} {d : Kd α} {t e : TypeId} {G : List α → Prop} (O : Opens P (Kd.slice e d) t G) {H : Type} {enc : TypeId × Value → H} {w : World} {base : Nat} {spare : Nat → Bool} {held : Bool} {a : Option Addr} {len cap : Nat} {x : DataW H} {ps : List MemPlace}
    (h : DataW.Trod enc P w base spare held t (.slice a len cap) x ps) : ∃ l, len = l.length ∧ l.length ≤ cap ∧ Kd.C d w a l.length l ∧ G l := by
  obtain ⟨fuel, hf⟩ := h
  obtain ⟨l, ⟨A, c, he, hl, hC⟩, hG⟩ := O.2 enc w base spare held fuel _ _ hf
  simp only [Value.cells] at he
  have he2 : Value.slice a len cap = Value.slice A l.length c := by simpa using he
  injection he2 with h1 h2 h3
  subst h1 h2 h3
  exact ⟨l, rfl, hl, hC, hG⟩
end Go.Proofs.Ytdcjmldcmlmcdaa.Q
end

section
namespace Go.Proofs.Ytdcjmldcmlmcdaa.Q
open Go.RowKit Go.Proofs.YtdcjmldcmlmcdaaW.PrintWords Go.Proofs.YtdcjmldcmlmcdaaW.PrintLast Go.Proofs.YtdcjmldcmlmcdaaW.PrintMore
attribute [local go_sem] max2_int min2_int max_two min_two max_three min_three max_four min_four   -- for this text's walks alone
set_option linter.unusedVariables false
set_option linter.unusedSimpArgs false
attribute [local go_sem] bin_leq bin_gtr bin_geq
def good44 (x : S44) : Prop := (fun s => s.size ≤ 9223372036854775807) x.f0 ∧ (fun n => (Lit.int .i64 n).wf = true) x.f1 ∧ (fun n => (Lit.int .i64 n).wf = true) x.f2 ∧ (fun _ => True) x.f3
set_option maxRecDepth 100000 in
theorem opens_44 : Opens Try.prog k44 44 good44 := by
  refine ⟨by kernel_rfl, fun enc w base spare held fuel cs x h => ?_⟩
  obtain ⟨xs, n, _, _, hcl, hxl, hf⟩ := DataW.trod_struct Try.underlying44 h
  have hcl2 : cs.length = 4 := hcl.trans (by kernel_rfl)
  obtain ⟨c0, c1, c2, c3, rfl⟩ : ∃ c0 c1 c2 c3, cs = [c0, c1, c2, c3] := by
    match cs, hcl2 with
    | [c0, c1, c2, c3], _ => exact ⟨c0, c1, c2, c3, rfl⟩
  have h0 := hf 0 _ rfl
  rw [List.getElem?_eq_getElem (show 0 < xs.length by rw [hxl]; decide)] at h0
  obtain ⟨v0, K0, G0⟩ := (opens_string Try.underlying9 (by kernel_rfl)).2 enc w base spare held n [c0] _ ((show DataW.trod enc Try.prog w base spare held n 9 [c0] = _ from (by first | exact h0 | (rw [show Try.prog.cellsOf 9 = 1 by kernel_rfl] at h0; exact h0))))
  have h1 := hf 1 _ rfl
  rw [List.getElem?_eq_getElem (show 1 < xs.length by rw [hxl]; decide)] at h1
  obtain ⟨v1, K1, G1⟩ := (opens_int (k := .i64) Try.underlying3 (by kernel_rfl)).2 enc w base spare held n [c1] _ ((show DataW.trod enc Try.prog w base spare held n 3 [c1] = _ from (by first | exact h1 | (rw [show Try.prog.cellsOf 3 = 1 by kernel_rfl] at h1; exact h1))))
  have h2 := hf 2 _ rfl
  rw [List.getElem?_eq_getElem (show 2 < xs.length by rw [hxl]; decide)] at h2
  obtain ⟨v2, K2, G2⟩ := (opens_int (k := .i64) Try.underlying3 (by kernel_rfl)).2 enc w base spare held n [c2] _ ((show DataW.trod enc Try.prog w base spare held n 3 [c2] = _ from (by first | exact h2 | (rw [show Try.prog.cellsOf 3 = 1 by kernel_rfl] at h2; exact h2))))
  have h3 := hf 3 _ rfl
  rw [List.getElem?_eq_getElem (show 3 < xs.length by rw [hxl]; decide)] at h3
  obtain ⟨v3, K3, G3⟩ := (opens_bool Try.underlying4 (by kernel_rfl)).2 enc w base spare held n [c3] _ ((show DataW.trod enc Try.prog w base spare held n 4 [c3] = _ from (by first | exact h3 | (rw [show Try.prog.cellsOf 4 = 1 by kernel_rfl] at h3; exact h3))))
  exact ⟨⟨v0, v1, v2, v3⟩, ⟨[c0], [c1, c2, c3], rfl, K0, ⟨[c1], [c2, c3], rfl, K1, ⟨[c2], [c3], rfl, K2, K3⟩⟩⟩, ⟨G0, G1, G2, G3⟩⟩
end Go.Proofs.Ytdcjmldcmlmcdaa.Q
end

section
namespace Go.Proofs.Ytdcjmldcmlmcdaa.Q
open Go.RowKit Go.Proofs.YtdcjmldcmlmcdaaW.PrintWords Go.Proofs.YtdcjmldcmlmcdaaW.PrintLast Go.Proofs.YtdcjmldcmlmcdaaW.PrintMore
attribute [local go_sem] max2_int min2_int max_two min_two max_three min_three max_four min_four   -- for this text's walks alone
set_option linter.unusedVariables false
set_option linter.unusedSimpArgs false
attribute [local go_sem] bin_leq bin_gtr bin_geq
def laws_FnExactNewWatch.Pure : Prop := ∀ (l0 : List (S44)) (a1 : ByteArray), (fun l => l.length ≤ 9223372036854775807 ∧ ∀ x, x ∈ l → good44 x) l0 → a1.size ≤ 140737488351232 → ∃ k, laws_FnExactNewWatch.f k l0 a1 = some true
theorem laws_FnExactNewWatch.walk (P : laws_FnExactNewWatch.Pure) (A0 : Option Addr) (c0 : Nat) (l0 : List (S44)) (a1 : ByteArray) (w : World) (w0 : (fun l => l.length ≤ 9223372036854775807 ∧ ∀ x, x ∈ l → good44 x) l0) (w1 : a1.size ≤ 140737488351232) (hr0 : Kd.C k44 w A0 l0.length l0) (hc0 : l0.length ≤ c0) :
    Calls Try.prog 3 #[.slice A0 l0.length c0, .string a1] w fun e w' => e = .returned (.bool true) ∧ Below w.heap.size w w' := by
  obtain ⟨k, hk⟩ := P l0 a1 w0 w1
  exact (laws_FnExactNewWatch.calls k A0 c0 l0 a1 w hr0 hc0 hk).mono fun e w' h => ⟨h.1, h.2⟩
end Go.Proofs.Ytdcjmldcmlmcdaa.Q
end

section
namespace Go.Proofs.Ytdcjmldcmlmcdaa.Q
open Go.RowKit Go.Proofs.YtdcjmldcmlmcdaaW.PrintWords Go.Proofs.YtdcjmldcmlmcdaaW.PrintLast Go.Proofs.YtdcjmldcmlmcdaaW.PrintMore
attribute [local go_sem] max2_int min2_int max_two min_two max_three min_three max_four min_four   -- for this text's walks alone
set_option linter.unusedVariables false
set_option linter.unusedSimpArgs false
attribute [local go_sem] bin_leq bin_gtr bin_geq
theorem ev_map_loop {α β : Type} {L : Nat → List α → List β → Int → Option (List β)} {g : Nat → α → Option β} {cv : α → β} {z : α}
    (step : ∀ k xs acc i, L (k + 1) xs acc i = if i < (xs.length : Int) then (if 0 ≤ i then ((g k (xs.getD i.toNat z)).bind fun y => (if i < (acc.length : Int) then (L k xs (acc.set i.toNat y) (wrap64 (i + 1))) else none)) else none) else some acc)
    (xs : List α) (hlen : xs.length ≤ 4611686018427387904) (hg : ∀ x, x ∈ xs → Ev (fun k => g k x) (cv x)) (acc : List β) (ha : acc.length = xs.length) : Ev (fun k => L k xs acc 0) (xs.map cv) := by
  have key : ∀ d (i : Nat) (acc : List β), i + d = xs.length → acc.length = xs.length → Ev (fun k => L k xs acc (i : Int)) (acc.take i ++ (xs.drop i).map cv) := by
    intro d
    induction d with
    | zero =>
      intro i acc hi ha
      refine Ev.step (f := fun _ => some acc) (fun k => by rw [step, if_neg (by omega)]) ?_
      rw [List.take_of_length_le (by omega), List.drop_eq_nil_of_le (by omega)]
      simpa using Ev.now acc
    | succ d ih =>
      intro i acc hi ha
      have hl : i < xs.length := by omega
      have hw : wrap64 ((i : Int) + 1) = ((i + 1 : Nat) : Int) := by unfold wrap64; omega
      have hx : xs.getD ((i : Int).toNat) z = xs[i] := by simp [List.getD_eq_getElem?_getD, List.getElem?_eq_getElem hl]
      refine Ev.step (f := fun k => (g k xs[i]).bind fun y => L k xs (acc.set i y) ((i + 1 : Nat) : Int)) (fun k => ?_) ?_
      · rw [step, if_pos (by omega), if_pos (by omega), hx, hw]
        congr 1
        funext y
        rw [if_pos (by omega)]
        simp
      · have h2 := ih (i + 1) (acc.set i (cv xs[i])) (by omega) (by simpa using ha)
        have e : (acc.set i (cv xs[i])).take (i + 1) ++ (xs.drop (i + 1)).map cv = acc.take i ++ (xs.drop i).map cv := by
          rw [List.drop_eq_getElem_cons hl, List.map_cons, List.take_succ_eq_append_getElem (by simpa using (show i < acc.length by omega)), List.take_set_of_le (by omega)]
          simp
        rw [e] at h2
        exact Ev.bind (hg _ (List.getElem_mem hl)) h2
  have h := key xs.length 0 acc (by omega) ha
  simpa using h
theorem ev_refl_loop {α : Type} {L : Nat → List α → List α → Int → Option Bool} {g : Nat → α → α → Option Bool} {z : α}
    (step : ∀ k xs ys i, L (k + 1) xs ys i = if i < (xs.length : Int) then (if 0 ≤ i then (if i < (ys.length : Int) then ((g k (xs.getD i.toNat z) (ys.getD i.toNat z)).bind fun t => (if t = true then L k xs ys (wrap64 (i + 1)) else some false)) else none) else none) else some true)
    (xs : List α) (hlen : xs.length ≤ 4611686018427387904) (hg : ∀ x, x ∈ xs → Ev (fun k => g k x x) true) : Ev (fun k => L k xs xs 0) true := by
  have key : ∀ d (i : Nat), i + d = xs.length → Ev (fun k => L k xs xs (i : Int)) true := by
    intro d
    induction d with
    | zero =>
      intro i hi
      exact Ev.step (f := fun _ => some true) (fun k => by rw [step, if_neg (by omega)]) (Ev.now true)
    | succ d ih =>
      intro i hi
      have hl : i < xs.length := by omega
      have hw : wrap64 ((i : Int) + 1) = ((i + 1 : Nat) : Int) := by unfold wrap64; omega
      have hx : xs.getD ((i : Int).toNat) z = xs[i] := by simp [List.getD_eq_getElem?_getD, List.getElem?_eq_getElem hl]
      refine Ev.step (f := fun k => (g k xs[i] xs[i]).bind fun t => if t = true then L k xs xs ((i + 1 : Nat) : Int) else some false) (fun k => ?_) ?_
      · rw [step, if_pos (by omega), if_pos (by omega), if_pos (by omega), hx, hw]
      · refine Ev.bind (hg _ (List.getElem_mem hl)) ?_
        simp only [if_true]
        exact ih (i + 1) (by omega)
  exact key xs.length 0 (by omega)
theorem ev_sz_loop {α : Type} {L : Nat → List α → Int → Int → Option Int} {g : Nat → α → Int → Option Int} {z : α}
    (step : ∀ k xs left i, L (k + 1) xs left i = if i < (xs.length : Int) then (if 0 ≤ i then ((g k (xs.getD i.toNat z) left).bind fun t => (if t < 0 then some (-1) else L k xs t (wrap64 (i + 1)))) else none) else some left)
    (xs : List α) (hlen : xs.length ≤ 4611686018427387904) (hg : ∀ x, x ∈ xs → ∀ left : Int, 0 ≤ left → left ≤ 1048576 → ∃ r, Ev (fun k => g k x left) r ∧ r ≤ left) (left : Int) (h0 : 0 ≤ left) (h1 : left ≤ 1048576) :
    ∃ r, Ev (fun k => L k xs left 0) r ∧ r ≤ left := by
  have key : ∀ d (i : Nat) (left : Int), i + d = xs.length → 0 ≤ left → left ≤ 1048576 → ∃ r, Ev (fun k => L k xs left (i : Int)) r ∧ r ≤ left := by
    intro d
    induction d with
    | zero =>
      intro i left hi h0 h1
      exact ⟨left, Ev.step (f := fun _ => some left) (fun k => by rw [step, if_neg (by omega)]) (Ev.now left), by omega⟩
    | succ d ih =>
      intro i left hi h0 h1
      have hl : i < xs.length := by omega
      have hw : wrap64 ((i : Int) + 1) = ((i + 1 : Nat) : Int) := by unfold wrap64; omega
      have hx : xs.getD ((i : Int).toNat) z = xs[i] := by simp [List.getD_eq_getElem?_getD, List.getElem?_eq_getElem hl]
      obtain ⟨t, ht, htl⟩ := hg _ (List.getElem_mem hl) left h0 h1
      by_cases hn : t < 0
      · refine ⟨-1, Ev.step (f := fun k => (g k xs[i] left).bind fun t => if t < 0 then some (-1) else L k xs t ((i + 1 : Nat) : Int)) (fun k => ?_) (Ev.bind ht ?_), by omega⟩
        · rw [step, if_pos (by omega), if_pos (by omega), hx, hw]
        · simp only [hn, if_true]
          exact Ev.now _
      · obtain ⟨r, hr, hrl⟩ := ih (i + 1) t (by omega) (by omega) (by omega)
        refine ⟨r, Ev.step (f := fun k => (g k xs[i] left).bind fun t => if t < 0 then some (-1) else L k xs t ((i + 1 : Nat) : Int)) (fun k => ?_) (Ev.bind ht ?_), by omega⟩
        · rw [step, if_pos (by omega), if_pos (by omega), hx, hw]
        · simp only [hn, if_false]
          exact hr
  exact key xs.length 0 left (by omega) h0 h1
end Go.Proofs.Ytdcjmldcmlmcdaa.Q
end

section
namespace Go.Proofs.Ytdcjmldcmlmcdaa.Q
open Go.RowKit Go.Proofs.YtdcjmldcmlmcdaaW.PrintWords Go.Proofs.YtdcjmldcmlmcdaaW.PrintLast
set_option linter.unusedVariables false
theorem Ev.shift {α : Type} {g h : Nat → Option α} {r : α} {c d : Nat} (e : ∀ k, g (k + c) = h (k + d)) (k : Ev h r) : Ev g r := by
  obtain ⟨K, hK⟩ := k
  refine ⟨K + c, fun n hn => ?_⟩
  obtain ⟨m, rfl⟩ : ∃ m, n = m + c := ⟨n - c, by omega⟩
  rw [e]
  exact hK _ (by omega)
theorem Ev.at_ {α : Type} {g : Nat → Option α} {r : α} {c : Nat} (e : ∀ k, g (k + c) = some r) : Ev g r := by
  refine ⟨c, fun n hn => ?_⟩
  obtain ⟨m, rfl⟩ : ∃ m, n = m + c := ⟨n - c, by omega⟩
  exact e m
theorem Ev.succ {α : Type} {g : Nat → Option α} {r : α} (h : Ev (fun k => g (k + 1)) r) : Ev g r := Ev.step (fun _ => rfl) h
theorem ev_all_loop {L : Nat → Int → Option Bool} {n : Nat} {p : Nat → Bool} {fin : Bool}
    (step : ∀ i : Nat, i < n → (∀ j, j < i → p j = true) → p i = true → ∃ c d, ∀ k, L (k + c) (i : Int) = L (k + d) ((i + 1 : Nat) : Int))
    (stop : ∀ i : Nat, i < n → (∀ j, j < i → p j = true) → p i = false → ∃ c, ∀ k, L (k + c) (i : Int) = some false)
    (done : Ev (fun k => L k (n : Int)) fin) : Ev (fun k => L k 0) (allR p n && fin) := by
  have key : ∀ d (i : Nat), i + d = n → (∀ j, j < i → p j = true) → Ev (fun k => L k (i : Int)) (allR p n && fin) := by
    intro d
    induction d with
    | zero =>
      intro i hi hp
      obtain rfl : i = n := by omega
      rw [allR_true hp, Bool.true_and]
      exact done
    | succ d ih =>
      intro i hi hp
      cases h : p i with
      | true =>
        obtain ⟨c, d', e⟩ := step i (by omega) hp h
        refine Ev.shift e (ih (i + 1) (by omega) (fun j hj => ?_))
        rcases Nat.lt_or_eq_of_le (Nat.le_of_lt_succ hj) with h1 | h1
        · exact hp j h1
        · rw [h1]; exact h
      | false =>
        obtain ⟨c, e⟩ := stop i (by omega) hp h
        rw [allR_false (by omega) h, Bool.false_and]
        exact Ev.at_ e
  exact key n 0 (by omega) (fun j hj => absurd hj (Nat.not_lt_zero _))
theorem ev_all_loop2 {L : Nat → Int → Option Bool} {n : Nat} {p : Nat → Bool} {fin : Bool} (m : Nat)
    (step : ∀ i : Nat, m ≤ i → i < n → (∀ j, j < i → p j = true) → p i = true → ∀ r, Ev (fun k => L k ((i + 1 : Nat) : Int)) r → Ev (fun k => L k (i : Int)) r)
    (stop : ∀ i : Nat, m ≤ i → i < n → (∀ j, j < i → p j = true) → p i = false → Ev (fun k => L k (i : Int)) false)
    (done : Ev (fun k => L k (n : Int)) fin) (hm : m ≤ n) (hpm : ∀ j, j < m → p j = true) : Ev (fun k => L k (m : Int)) (allR p n && fin) := by
  have key : ∀ d (i : Nat), m ≤ i → i + d = n → (∀ j, j < i → p j = true) → Ev (fun k => L k (i : Int)) (allR p n && fin) := by
    intro d
    induction d with
    | zero =>
      intro i _ hi hp
      obtain rfl : i = n := by omega
      rw [allR_true hp, Bool.true_and]
      exact done
    | succ d ih =>
      intro i hmi hi hp
      cases h : p i with
      | true =>
        refine step i hmi (by omega) hp h _ (ih (i + 1) (by omega) (by omega) (fun j hj => ?_))
        rcases Nat.lt_or_eq_of_le (Nat.le_of_lt_succ hj) with h1 | h1
        · exact hp j h1
        · rw [h1]; exact h
      | false =>
        rw [allR_false (by omega) h, Bool.false_and]
        exact stop i hmi (by omega) hp h
  exact key (n - m) m (Nat.le_refl _) (by omega) hpm
theorem ev_idx_loop {α : Type} {L : Nat → Int → Option Int} {l : List α} {q : α → Bool}
    (step : ∀ (i : Nat) (hi : i < l.length), q l[i] = false → ∀ k, L (k + 1) (i : Int) = L k ((i + 1 : Nat) : Int))
    (stop : ∀ (i : Nat) (hi : i < l.length), q l[i] = true → ∀ k, L (k + 1) (i : Int) = some (i : Int))
    (done : ∀ k, L (k + 1) (l.length : Int) = some (-1)) : Ev (fun k => L k 0) (idxI q l) := by
  have key : ∀ d (i : Nat), i + d = l.length → (∀ j (hj : j < l.length), j < i → q l[j] = false) → Ev (fun k => L k (i : Int)) (idxI q l) := by
    intro d
    induction d with
    | zero =>
      intro i hi hp
      obtain rfl : i = l.length := by omega
      rw [idxI_none (fun j hj => hp j hj hj)]
      exact Ev.at_ (c := 1) done
    | succ d ih =>
      intro i hi hp
      cases h : q (l[i]'(by omega)) with
      | false =>
        refine Ev.step (step i (by omega) h) (ih (i + 1) (by omega) (fun j hj h2 => ?_))
        rcases Nat.lt_or_eq_of_le (Nat.le_of_lt_succ h2) with h1 | h1
        · exact hp j hj h1
        · subst h1; exact h
      | true =>
        rw [idxI_some (by omega) (fun j hj => hp j (by omega) hj) h]
        exact Ev.at_ (c := 1) (stop i (by omega) h)
  exact key l.length 0 (by omega) (fun j _ hj => absurd hj (Nat.not_lt_zero _))
theorem all_allR {α : Type} (q : α → Bool) (z : α) (l : List α) : l.all q = allR (fun j => q (l.getD j z)) l.length := by
  rw [Bool.eq_iff_iff, List.all_eq_true, allR_iff]
  constructor
  · intro h j hj
    rw [List.getD_eq_getElem?_getD, List.getElem?_eq_getElem hj]
    exact h _ (List.getElem_mem hj)
  · intro h x hx
    obtain ⟨j, hj, rfl⟩ := List.mem_iff_getElem.mp hx
    have := h j hj
    rwa [List.getD_eq_getElem?_getD, List.getElem?_eq_getElem hj] at this
theorem allR_and (p q : Nat → Bool) (n : Nat) : allR (fun j => p j && q j) n = (allR p n && allR q n) := by
  rw [Bool.eq_iff_iff, Bool.and_eq_true, allR_iff, allR_iff, allR_iff]
  simp only [Bool.and_eq_true]
  exact ⟨fun h => ⟨fun j hj => (h j hj).1, fun j hj => (h j hj).2⟩, fun h j hj => ⟨h.1 j hj, h.2 j hj⟩⟩
theorem wrap_i {i : Nat} (h : i < 4611686018427387904) : wrap64 ((i : Int) + 1) = ((i + 1 : Nat) : Int) := by unfold wrap64; omega
end Go.Proofs.Ytdcjmldcmlmcdaa.Q
end

section
namespace Go.Proofs.Ytdcjmldcmlmcdaa.Q
open Go.RowKit Go.Proofs.YtdcjmldcmlmcdaaW.PrintWords Go.Proofs.YtdcjmldcmlmcdaaW.PrintLast
theorem l00Word_ev (s : ByteArray) : Ev (fun k => spec_l00Word.f k s) (nameB s) := Ev.of (fun k => spec_l00Word.mono s k) (l00Word_f s)
theorem l01In_is (a b c : Int) : spec_l01In.f a b c = some (inB a b c) := by
  unfold spec_l01In.f inB
  by_cases h : b ≤ a <;> simp [h]
end Go.Proofs.Ytdcjmldcmlmcdaa.Q
end

section
namespace Go.Proofs.Ytdcjmldcmlmcdaa.Q
open Go.RowKit Go.Proofs.YtdcjmldcmlmcdaaW.PrintWords Go.Proofs.YtdcjmldcmlmcdaaW.PrintLast
set_option linter.unusedVariables false
set_option linter.unusedSimpArgs false
theorem rdRef {l : List S48} {i : Nat} (h : i < l.length) : rd_T48 l (i : Int) = l[i] := by
  simp [rd_T48, List.getD_eq_getElem?_getD, List.getElem?_eq_getElem h]
theorem l04At_ev (l : List S48) (n : ByteArray) (hlen : l.length ≤ 1048576) : Ev (fun k => spec_l04At.f k l n) (placeI l n) := by
  refine ev_idx_loop (L := fun k i => spec_l04At.l0 k l n i) (q := isNm n) ?_ ?_ ?_
  · intro i hi hq k
    have hq2 : ¬ (l[i].f0.toList = n.toList) := by simpa [isNm] using hq
    have c1 : (i : Int) < (l.length : Int) := by omega
    simp only [spec_l04At.l0, rdRef hi, c1, hq2, if_true, if_false, Int.natCast_nonneg, wrap_i (show i < 4611686018427387904 by omega)]
  · intro i hi hq k
    have hq2 : l[i].f0.toList = n.toList := by simpa [isNm] using hq
    have c1 : (i : Int) < (l.length : Int) := by omega
    simp only [spec_l04At.l0, rdRef hi, c1, hq2, if_true, Int.natCast_nonneg]
  · intro k
    simp only [spec_l04At.l0]
    rw [if_neg (by omega)]
theorem placeI_range (l : List S48) (n : ByteArray) : -1 ≤ placeI l n ∧ placeI l n < l.length := by
  unfold placeI idxI
  cases h : l.findIdx? (isNm n) with
  | none => simp only; omega
  | some i =>
    obtain ⟨hi, _⟩ := List.findIdx?_eq_some_iff_getElem.mp h
    simp only
    omega
theorem placeI_self {l : List S48} {i : Nat} (hi : i < l.length) : (placeI l l[i].f0 = (i : Int)) ↔ placeI (l.take i) l[i].f0 < 0 := by
  have hself : isNm l[i].f0 l[i] = true := by simp [isNm]
  have e : l = l.take i ++ l[i] :: l.drop (i + 1) := by rw [← List.drop_eq_getElem_cons hi, List.take_append_drop]
  cases h : (l.take i).findIdx? (isNm l[i].f0) with
  | none =>
    have h1 : placeI (l.take i) l[i].f0 = -1 := by unfold placeI idxI; rw [h]
    have h0 := List.findIdx?_eq_none_iff.mp h
    have h2 : placeI l l[i].f0 = (i : Int) := idxI_some hi (fun j hj => by
      have hm : l[j] ∈ l.take i := List.mem_take_iff_getElem.mpr ⟨j, by omega, rfl⟩
      simpa using h0 _ hm) hself
    rw [h1, h2]
    simp
  | some j =>
    obtain ⟨hj, hp, hmin⟩ := List.findIdx?_eq_some_iff_getElem.mp h
    have hj2 : j < i := by rw [List.length_take] at hj; omega
    have h1 : placeI (l.take i) l[i].f0 = (j : Int) := by unfold placeI idxI; rw [h]
    have h2 : placeI l l[i].f0 = (j : Int) := idxI_some (by omega) (fun k hk => by
      have := hmin k hk
      simpa using this) (by simpa using hp)
    rw [h1, h2]
    constructor
    · intro h3
      omega
    · intro h3
      omega
def refAt (l : List S48) (i : Nat) : Bool := refB (rd_T48 l (i : Int)) && decide (placeI (l.take i) (rd_T48 l (i : Int)).f0 < 0)
theorem refsB_at (l : List S48) : refsB l = (decide (l.length ≤ 8) && allR (refAt l) l.length) := by
  unfold refsB refAt
  rw [allR_and, all_allR refB z48 l]
  rfl
theorem l04OK_ev (l : List S48) : Ev (fun k => spec_l04OK.f k l) (refsB l) := by
  by_cases h8 : l.length ≤ 8
  · have e : refsB l = (allR (refAt l) l.length && true) := by rw [refsB_at, decide_eq_true h8, Bool.true_and, Bool.and_true]
    rw [e]
    refine Ev.congr (f := fun k => spec_l04OK.l0 k l ((0 : Nat) : Int)) (fun k => by unfold spec_l04OK.f; rw [if_neg (by omega)]; rfl) ?_
    refine ev_all_loop2 (L := fun k i => spec_l04OK.l0 k l i) (p := refAt l) 0 ?_ ?_ (Ev.step (f := fun _ => some true) (fun k => by simp only [spec_l04OK.l0]; rw [if_neg (by omega)]) (Ev.now _)) (Nat.zero_le _) (fun j hj => absurd hj (Nat.not_lt_zero _))
    · intro i _ hi _ hp r hr
      have c1 : (i : Int) < (l.length : Int) := by omega
      have hw := wrap_i (show i < 4611686018427387904 by omega)
      unfold refAt at hp
      rw [rdRef hi] at hp
      simp only [Bool.and_eq_true, decide_eq_true_eq, refB] at hp
      obtain ⟨⟨⟨h1, h2⟩, h3⟩, h4⟩ := hp
      have h4' := (placeI_self hi).mpr h4
      refine Ev.succ (g := fun k => spec_l04OK.l0 k l (i : Int)) ?_
      simp only [spec_l04OK.l0, rdRef hi, c1, Int.natCast_nonneg, if_true]
      refine Ev.bind (h1 ▸ l00Word_ev _) ?_
      simp only [if_true, l01In_is, h2, Option.bind_some]
      refine Ev.bind (h4' ▸ l04At_ev l l[i].f0 (by omega)) ?_
      simp only [if_true, hw]
      cases h5 : l[i].f3 with
      | true =>
        rw [h5] at h3
        simp only [if_true, beq_iff_eq] at h3
        simp only [h3, if_true]
        exact hr
      | false =>
        rw [h5] at h3
        simp only [Bool.false_eq_true, if_false] at h3
        simp only [Bool.false_eq_true, if_false, h3, Option.bind_some, if_true]
        exact hr
    · intro i _ hi _ hp
      have c1 : (i : Int) < (l.length : Int) := by omega
      unfold refAt at hp
      rw [rdRef hi] at hp
      refine Ev.succ (g := fun k => spec_l04OK.l0 k l (i : Int)) ?_
      simp only [spec_l04OK.l0, rdRef hi, c1, Int.natCast_nonneg, if_true]
      refine Ev.bind (l00Word_ev _) ?_
      cases h1 : nameB l[i].f0 with
      | false => simp only [Bool.false_eq_true, if_false]; exact Ev.now _
      | true =>
        simp only [if_true, l01In_is, Option.bind_some]
        cases h2 : inB l[i].f2 1 1000000 with
        | false => simp only [Bool.false_eq_true, if_false]; exact Ev.now _
        | true =>
          simp only [if_true]
          refine Ev.bind (l04At_ev l l[i].f0 (by omega)) ?_
          by_cases h4 : placeI l l[i].f0 = (i : Int)
          · have h4' := (placeI_self hi).mp h4
            simp only [refB, h1, h2, Bool.true_and, decide_eq_true h4', Bool.and_true] at hp
            simp only [h4, if_true]
            cases h5 : l[i].f3 with
            | true =>
              rw [h5] at hp
              simp only [if_true, beq_eq_false_iff_ne] at hp
              simp only [if_true, hp, if_false]
              exact Ev.now _
            | false =>
              rw [h5] at hp
              simp only [Bool.false_eq_true, if_false] at hp
              simp only [Bool.false_eq_true, if_false, hp]
              exact Ev.now _
          · simp only [h4, if_false]
            exact Ev.now _
  · have e : refsB l = false := by unfold refsB; rw [decide_eq_false h8, Bool.false_and]
    rw [e]
    exact Ev.congr (f := fun _ => some false) (fun k => by unfold spec_l04OK.f; rw [if_pos (by omega)]) (Ev.now _)
theorem refsOK_ev (l : List S48) : Ev (fun k => impl_RefsOK.f k l) (refsB l) := by
  by_cases h8 : l.length ≤ 8
  · have n8 : ¬ ((l.length : Int) > 8) := by omega
    cases ha : l.all refB with
    | false =>
      have e : refsB l = false := by unfold refsB; rw [ha, Bool.false_and, Bool.and_false]
      rw [e]
      refine Ev.at_ (c := 1) (fun k => ?_)
      simp only [impl_RefsOK.f, n8, if_false, areAllRef_isRef.f, ha, Option.bind_some, impl_RefsOK.j0, Bool.not_false, if_true]
    | true =>
      have e : refsB l = (allR (fun j => decide (placeI (l.take j) (rd_T48 l (j : Int)).f0 < 0)) l.length && true) := by unfold refsB; rw [decide_eq_true h8, ha, Bool.true_and, Bool.true_and, Bool.and_true]
      rw [e]
      refine Ev.step (f := fun k => impl_RefsOK.l0 k l l (l.length : Int) 0) (fun k => ?_) ?_
      · simp only [impl_RefsOK.f, n8, if_false, areAllRef_isRef.f, ha, Option.bind_some, impl_RefsOK.j0, Bool.not_true, Bool.false_eq_true]
      · refine ev_all_loop (L := fun k i => impl_RefsOK.l0 k l l (l.length : Int) i) ?_ ?_ ?_
        · intro i hi _ hp
          refine ⟨1, 0, fun k => ?_⟩
          have c1 : (i : Int) < (l.length : Int) := by omega
          have c2 : (i : Int) ≤ (l.length : Int) := by omega
          have c3 : ¬ (placeI (l.take i) (rd_T48 l (i : Int)).f0 ≥ 0) := by simp only [decide_eq_true_eq] at hp; omega
          simp only [impl_RefsOK.l0, c1, c2, Int.natCast_nonneg, if_true, impl_place.f, Option.bind_some, Int.toNat_natCast, c3, if_false, wrap_i (show i < 4611686018427387904 by omega), Nat.add_zero]
        · intro i hi _ hp
          refine ⟨1, fun k => ?_⟩
          have c1 : (i : Int) < (l.length : Int) := by omega
          have c2 : (i : Int) ≤ (l.length : Int) := by omega
          have c3 : placeI (l.take i) (rd_T48 l (i : Int)).f0 ≥ 0 := by simp only [decide_eq_false_iff_not] at hp; omega
          simp only [impl_RefsOK.l0, c1, c2, Int.natCast_nonneg, if_true, impl_place.f, Option.bind_some, Int.toNat_natCast, c3]
        · refine Ev.at_ (c := 1) (fun k => ?_)
          simp only [impl_RefsOK.l0]
          rw [if_neg (by omega)]
  · have e : refsB l = false := by unfold refsB; rw [decide_eq_false h8, Bool.false_and]
    rw [e]
    refine Ev.at_ (c := 1) (fun k => ?_)
    unfold impl_RefsOK.f
    rw [if_pos (by omega)]
    simp only [impl_RefsOK.j0, if_true]
end Go.Proofs.Ytdcjmldcmlmcdaa.Q
end

section
namespace Go.Proofs.Ytdcjmldcmlmcdaa.Q
open Go.RowKit Go.Proofs.YtdcjmldcmlmcdaaW.PrintWords Go.Proofs.YtdcjmldcmlmcdaaW.PrintLast
set_option linter.unusedVariables false
def cvRef (x : S44) : S48 := ⟨x.f0, x.f1, x.f2, x.f3⟩
theorem toRefS_ev (l : List S44) (h : l.length ≤ 1048576) : Ev (fun k => laws_toRefS.f k l) (l.map cvRef) := by
  refine Ev.congr (f := fun k => laws_toRefS.l0 k l (List.replicate l.length z48) 0) (fun k => ?_) ?_
  · unfold laws_toRefS.f
    rw [if_pos (by omega), if_pos (by omega)]
    rfl
  · exact ev_map_loop (L := laws_toRefS.l0) (g := fun _ x => some (cvRef x)) (z := z44) (fun _ _ _ _ => rfl) l (by omega) (fun x _ => Ev.now _) _ (by simp)
theorem eqRef_refl (x : S48) : laws_eqRef.f x.f0 x.f1 x.f2 x.f3 x.f0 x.f1 x.f2 x.f3 = some true := by
  unfold laws_eqRef.f
  simp
theorem eqRefS_ev (l : List S48) (h : l.length ≤ 1048576) : Ev (fun k => laws_eqRefS.f k l l) true := by
  refine Ev.congr (f := fun k => laws_eqRefS.l0 k l l 0) (fun k => ?_) ?_
  · unfold laws_eqRefS.f
    rw [if_pos rfl]
  · exact ev_refl_loop (L := laws_eqRefS.l0) (g := fun _ x y => laws_eqRef.f x.f0 x.f1 x.f2 x.f3 y.f0 y.f1 y.f2 y.f3) (z := z48) (fun _ _ _ _ => rfl) l (by omega) (fun x _ => Ev.congr (fun _ => eqRef_refl x) (Ev.now _))
theorem szRefS_ev (l : List S44) (hl : l.length ≤ 9223372036854775807) (hg : ∀ x, x ∈ l → good44 x) (left : Int) (h0 : 0 ≤ left) (h1 : left ≤ 1048576) :
    ∃ r, Ev (fun k => laws_szRefS.f k l left) r ∧ r ≤ left ∧ (0 ≤ r → l.length ≤ 1048576) := by
  have hw : wrap64 (left - (l.length : Int)) = left - (l.length : Int) := by unfold wrap64; omega
  by_cases hn : left - (l.length : Int) < 0
  · refine ⟨-1, Ev.congr (f := fun _ => some (-1)) (fun k => ?_) (Ev.now _), by omega, by omega⟩
    unfold laws_szRefS.f
    rw [hw, if_pos hn]
  · obtain ⟨r, hr, hrl⟩ := ev_sz_loop (L := laws_szRefS.l0) (g := fun _ x left => laws_szRef.f x.f0 x.f1 x.f2 x.f3 left) (z := z44) (fun _ _ _ _ => rfl) l (by omega) (fun x hx left h0 h1 => by
      have hsz : x.f0.size ≤ 9223372036854775807 := (hg x hx).1
      have hw2 : wrap64 (left - (x.f0.size : Int)) = left - (x.f0.size : Int) := by unfold wrap64; omega
      by_cases h2 : left - (x.f0.size : Int) < 0
      · refine ⟨-1, Ev.congr (f := fun _ => some (-1)) (fun k => ?_) (Ev.now _), by omega⟩
        unfold laws_szRef.f
        rw [hw2, if_pos h2]
      · refine ⟨left - (x.f0.size : Int), Ev.congr (f := fun _ => some (left - (x.f0.size : Int))) (fun k => ?_) (Ev.now _), by omega⟩
        unfold laws_szRef.f
        rw [hw2, if_neg h2]) (left - (l.length : Int)) (by omega) (by omega)
    refine ⟨r, Ev.congr (f := fun k => laws_szRefS.l0 k l (left - (l.length : Int)) 0) (fun k => ?_) hr, by omega, by omega⟩
    unfold laws_szRefS.f
    rw [hw, if_neg hn]
end Go.Proofs.Ytdcjmldcmlmcdaa.Q
end

section
namespace Go.Proofs.Ytdcjmldcmlmcdaa.Q
open Go.RowKit Go.Proofs.YtdcjmldcmlmcdaaW.PrintWords Go.Proofs.YtdcjmldcmlmcdaaW.PrintLast
set_option linter.unusedVariables false
set_option linter.unusedSimpArgs false
theorem markText_l0 : ∀ (d : Nat) (n : Int) (s : ByteArray), 0 ≤ n → n ≤ 9223372036854775807 → n < 10 ^ d → s.size + d ≤ 1000 → ∃ r, Ev (fun k => laws_markText.l0 k n s) r := by
  intro d
  induction d with
  | zero =>
    intro n s h0 hn9 h1 hs
    have hn : ¬ n > 0 := by simp at h1; omega
    have hz : 1 + s.size ≤ 9223372036854775807 := by omega
    exact ⟨_, Ev.at_ (c := 1) (fun k => by simp only [laws_markText.l0, hn, if_false, hz, if_true]; rfl)⟩
  | succ d ih =>
    intro n s h0 hn9 h1 hs
    by_cases hn : n > 0
    · have e1 : Int.tdiv n 10 = n / 10 := Int.tdiv_eq_ediv_of_nonneg h0
      have h2 : n / 10 < 10 ^ d := by
        rw [Int.pow_succ] at h1
        omega
      have hw : wrap64 (n / 10) = n / 10 := by unfold wrap64; omega
      have hz : (strOfNums [(wrap64 (48 + (Int.tmod n 10))) % 256]).size = 1 := rfl
      have hz2 : 1 + s.size ≤ 9223372036854775807 := by omega
      obtain ⟨r, hr⟩ := ih (n / 10) (strOfNums [(wrap64 (48 + (Int.tmod n 10))) % 256] ++ s) (by omega) (by omega) h2 (by rw [ByteArray.size_append, hz]; omega)
      refine ⟨r, Ev.step (fun k => ?_) hr⟩
      simp only [laws_markText.l0, hn, if_true, Option.bind_some, hz, hz2, e1, hw]
    · have hz : 1 + s.size ≤ 9223372036854775807 := by omega
      exact ⟨_, Ev.at_ (c := 1) (fun k => by simp only [laws_markText.l0, hn, if_false, hz, if_true]; rfl)⟩
theorem markTexts : ∃ mt : Int → ByteArray, ∀ n, 0 ≤ n → n ≤ 1000000000 → Ev (fun k => laws_markText.f k n) (mt n) := by
  have h : ∀ n : Int, ∃ s, 0 ≤ n → n ≤ 1000000000 → Ev (fun k => laws_markText.f k n) s := by
    intro n
    by_cases h0 : 0 ≤ n ∧ n ≤ 1000000000
    · by_cases h1 : n ≤ 0
      · exact ⟨_, fun _ _ => Ev.at_ (c := 0) (fun k => by unfold laws_markText.f; rw [if_pos h1])⟩
      · obtain ⟨s, hs⟩ := markText_l0 10 n (⟨#[]⟩ : ByteArray) h0.1 (by omega) (by omega) (by decide)
        exact ⟨s, fun _ _ => Ev.congr (fun k => by unfold laws_markText.f; rw [if_neg h1]) hs⟩
    · exact ⟨ByteArray.empty, fun a b => absurd ⟨a, b⟩ h0⟩
  exact ⟨fun n => Classical.choose (h n), fun n => Classical.choose_spec (h n)⟩
theorem ev_mark_loop {α : Type} {L : Nat → List α → Int → Int → Option (Int × List α)} {H : Nat → List α → Int → Int → Option Int} {mk : α → Int → α} {c : Int} (hc : 0 ≤ c)
    (stepL : ∀ (l : List α) (m : Int) (i : Nat) (hi : i < l.length), l.length ≤ 1048576 → 0 ≤ m → m ≤ 900000000 → ∀ r, Ev (fun k => L k (l.set i (mk l[i] m)) (m + c) ((i + 1 : Nat) : Int)) r → Ev (fun k => L k l m (i : Int)) r)
    (stepH : ∀ (l : List α) (m : Int) (i : Nat) (hi : i < l.length) (y : α), l[i] = mk y m → l.length ≤ 1048576 → 0 ≤ m → m ≤ 900000000 → ∀ r, Ev (fun k => H k l (m + c) ((i + 1 : Nat) : Int)) r → Ev (fun k => H k l m (i : Int)) r)
    (doneL : ∀ (l : List α) (m : Int) k, L (k + 1) l m (l.length : Int) = some (m, l)) (doneH : ∀ (l : List α) (m : Int) k, H (k + 1) l m (l.length : Int) = some m)
    (l : List α) (m : Int) (hl : l.length ≤ 1048576) (h0 : 0 ≤ m) (hm : m + c * l.length ≤ 900000000) :
    ∃ l', l'.length = l.length ∧ Ev (fun k => L k l m 0) (m + c * l.length, l') ∧ Ev (fun k => H k l' m 0) (m + c * l.length) := by
  have key : ∀ (d i : Nat) (l : List α) (m : Int), i + d = l.length → l.length ≤ 1048576 → 0 ≤ m → m + c * d ≤ 900000000 →
      ∃ l', l'.length = l.length ∧ l'.take i = l.take i ∧ Ev (fun k => L k l m (i : Int)) (m + c * d, l') ∧ Ev (fun k => H k l' m (i : Int)) (m + c * d) := by
    intro d
    induction d with
    | zero =>
      intro i l m hi hl h0 hm
      obtain rfl : i = l.length := by omega
      refine ⟨l, rfl, rfl, ?_, ?_⟩
      · simp only [Int.natCast_zero, Int.mul_zero, Int.add_zero]
        exact Ev.at_ (c := 1) (doneL l m)
      · simp only [Int.natCast_zero, Int.mul_zero, Int.add_zero]
        exact Ev.at_ (c := 1) (doneH l m)
    | succ d ih =>
      intro i l m hi hl h0 hm
      have hil : i < l.length := by omega
      have e : m + c + c * (d : Int) = m + c * ((d + 1 : Nat) : Int) := by
        rw [Int.natCast_add, Int.natCast_one, Int.mul_add, Int.mul_one]
        omega
      have hcd : 0 ≤ c * (d : Int) := Int.mul_nonneg hc (Int.natCast_nonneg d)
      obtain ⟨l', hl', ht, hL, hH⟩ := ih (i + 1) (l.set i (mk l[i] m)) (m + c) (by rw [List.length_set]; omega) (by rw [List.length_set]; omega) (by omega) (by omega)
      rw [List.length_set] at hl'
      rw [e] at hL hH
      have hg : l'[i]'(by omega) = mk l[i] m := by
        have h1 : (l'.take (i + 1))[i]'(by rw [List.length_take]; omega) = ((l.set i (mk l[i] m)).take (i + 1))[i]'(by rw [List.length_take, List.length_set]; omega) := by simp only [ht]
        simpa using h1
      refine ⟨l', hl', ?_, stepL l m i hil hl h0 (by omega) _ hL, stepH l' m i (by omega) l[i] hg (by omega) h0 (by omega) _ hH⟩
      have h2 := congrArg (List.take i) ht
      rw [List.take_take, List.take_take, Nat.min_eq_left (by omega)] at h2
      rw [h2, List.take_set_of_le (Nat.le_refl _)]
  obtain ⟨l', h1, _, h3, h4⟩ := key l.length 0 l m (by omega) hl h0 hm
  exact ⟨l', h1, h3, h4⟩
end Go.Proofs.Ytdcjmldcmlmcdaa.Q
end

section
namespace Go.Proofs.Ytdcjmldcmlmcdaa.Pure
open Go.RowKit Go.Proofs.Ytdcjmldcmlmcdaa.Q Go.Proofs.YtdcjmldcmlmcdaaW.PrintWords Go.Proofs.YtdcjmldcmlmcdaaW.PrintLast
set_option linter.unusedVariables false
set_option linter.unusedSimpArgs false
def bigNW (l : List S48) (n : ByteArray) : Prop := (l.length : Int) > 4096 ∨ (n.size : Int) > 65536
theorem code_big {l : List S48} {n : ByteArray} (h : bigNW l n) : Ev (fun k => impl_refsCode.f k l n) 2 := by
  refine Ev.at_ (c := 1) (fun k => ?_)
  unfold impl_refsCode.f impl_Ref_44.f impl_isText.f
  simp only [Option.bind_some]
  by_cases h1 : (l.length : Int) ≤ 4096
  · have h2 : ¬ (n.size : Int) ≤ 65536 := by rcases h with h | h <;> omega
    simp only [h1, h2, decide_true, decide_false, if_true, impl_refsCode.j0, Bool.not_false]
  · simp only [h1, decide_false, Bool.false_eq_true, if_false, impl_refsCode.j0, if_true]
theorem code_small {l : List S48} {n : ByteArray} (h : ¬ bigNW l n) : Ev (fun k => impl_refsCode.f k l n) (if refsB l = true then 0 else 1) := by
  have h1 : (l.length : Int) ≤ 4096 := by unfold bigNW at h; omega
  have h2 : (n.size : Int) ≤ 65536 := by unfold bigNW at h; omega
  refine Ev.succ ?_
  unfold impl_refsCode.f impl_Ref_44.f impl_isText.f
  simp only [Option.bind_some, h1, h2, decide_true, if_true, impl_refsCode.j0, Bool.not_true, Bool.false_eq_true, if_false]
  refine Ev.bind (refsOK_ev l) ?_
  cases refsB l
  · simp only [Bool.false_eq_true, if_false]; exact Ev.now _
  · simp only [if_true]; exact Ev.now _
theorem new_both (l : List S48) (n : ByteArray) (hl : l.length ≤ 1048576) :
    ∃ n' s c, Ev (fun k => spec_NewWatch.f k l n) (n', s, [], c) ∧ Ev (fun k => impl_NewWatch.f k l n) (n', s, [], c) := by
  by_cases hb : bigNW l n
  · refine ⟨(⟨#[]⟩ : ByteArray), 0, 2, ?_, ?_⟩
    · refine Ev.at_ (c := 1) (fun k => ?_)
      unfold spec_NewWatch.f
      by_cases h1 : (l.length : Int) > 4096
      · simp only [h1, if_true, spec_NewWatch.j0]
      · have h2 : (n.size : Int) > 65536 := by rcases hb with h | h <;> omega
        simp only [h1, if_false, h2, decide_true, spec_NewWatch.j0, if_true]
    · unfold impl_NewWatch.f
      refine Ev.bind (code_big hb) ?_
      rw [if_neg (by decide)]
      exact Ev.now _
  · have h1 : ¬ (l.length : Int) > 4096 := by unfold bigNW at hb; omega
    have h2 : ¬ (n.size : Int) > 65536 := by unfold bigNW at hb; omega
    have hs : ∀ r, Ev (fun k => spec_NewWatch.j0 k l n false) r → Ev (fun k => spec_NewWatch.f k l n) r := by
      intro r hr
      refine Ev.congr (fun k => ?_) hr
      unfold spec_NewWatch.f
      simp only [h1, h2, if_false, decide_false]
    have hc := code_small hb
    cases hr : refsB l with
    | false =>
      have ho := l04OK_ev l
      rw [hr] at ho hc
      refine ⟨(⟨#[]⟩ : ByteArray), 0, 1, hs _ (Ev.succ ?_), ?_⟩
      · simp only [spec_NewWatch.j0, Bool.false_eq_true, if_false]
        refine Ev.bind ho ?_
        simp only [Bool.false_eq_true, if_false]
        exact Ev.now _
      · unfold impl_NewWatch.f
        refine Ev.bind hc ?_
        simp only [Bool.false_eq_true, if_false]
        rw [if_neg (by decide)]
        exact Ev.now _
    | true =>
      have ho := l04OK_ev l
      rw [hr] at ho hc
      cases hn : nameB n with
      | false =>
        have hw := l00Word_ev n
        rw [hn] at hw
        refine ⟨(⟨#[]⟩ : ByteArray), 0, 1, hs _ (Ev.succ ?_), ?_⟩
        · simp only [spec_NewWatch.j0, Bool.false_eq_true, if_false]
          refine Ev.bind ho ?_
          simp only [if_true]
          refine Ev.bind hw ?_
          simp only [Bool.false_eq_true, if_false]
          exact Ev.now _
        · unfold impl_NewWatch.f
          refine Ev.bind hc ?_
          simp only [if_true, impl_NameOK.f, Option.bind_some, hn, Bool.false_eq_true, if_false]
          exact Ev.now _
      | true =>
        have hw := l00Word_ev n
        rw [hn] at hw
        have hp := placeI_range l n
        refine ⟨n, if placeI l n ≥ 0 then (rd_T48 l (placeI l n)).f2 else 0, 0, hs _ (Ev.succ ?_), ?_⟩
        · simp only [spec_NewWatch.j0, Bool.false_eq_true, if_false]
          refine Ev.bind ho ?_
          simp only [if_true]
          refine Ev.bind hw ?_
          simp only [if_true]
          refine Ev.bind (a := (n, if placeI l n ≥ 0 then (rd_T48 l (placeI l n)).f2 else 0, [])) ?_ (Ev.now _)
          unfold spec_l06New.f
          simp only [Option.bind_some]
          refine Ev.bind (l04At_ev l n hl) ?_
          by_cases h0 : placeI l n ≥ 0
          · have h0' : 0 ≤ placeI l n := h0
            simp only [h0, h0', hp.2, if_true]
            exact Ev.now _
          · simp only [h0, if_false]
            exact Ev.now _
        · unfold impl_NewWatch.f
          refine Ev.bind hc ?_
          simp only [if_true, impl_NameOK.f, Option.bind_some, hn, impl_versionOf.f, impl_place.f]
          by_cases h0 : placeI l n ≥ 0
          · have h0' : 0 ≤ placeI l n := h0
            simp only [h0, h0', hp.2, if_true, Option.bind_some]
            exact Ev.now _
          · simp only [h0, if_false, Option.bind_some]
            exact Ev.now _
theorem eq_nil (n : ByteArray) (s : Int) : Ev (fun k => laws_eqWatch.f k n s [] n s []) true := by
  refine Ev.at_ (c := 1) (fun k => ?_)
  unfold laws_eqWatch.f laws_eqEventS.f
  simp [laws_eqEventS.l0]
theorem mark_nil (n : ByteArray) (s : Int) : Ev (fun k => laws_markWatch.f k n s [] 1) (1, []) := by
  refine Ev.at_ (c := 1) (fun k => ?_)
  unfold laws_markWatch.f laws_markEventS.f
  simp [laws_markEventS.l0]
theorem held_nil (n : ByteArray) (s : Int) : Ev (fun k => laws_heldWatch.f k n s [] 1) 1 := by
  refine Ev.at_ (c := 1) (fun k => ?_)
  unfold laws_heldWatch.f laws_heldEventS.f
  simp [laws_heldEventS.l0]
def countL : Nat → List S48 → Int → Int → Option Int
  | 0, _, _, _ => none
  | k + 1, l, m, i => if i < (l.length : Int) then countL k l (m + 4) (wrap64 (i + 1)) else some m
theorem markRefs_ev (l : List S48) (m : Int) (hl : l.length ≤ 1048576) (h0 : 0 ≤ m) (hm : m + 4 * l.length ≤ 900000000) :
    ∃ l', Ev (fun k => laws_markRefS.f k l m) (m + 4 * l.length, l') := by
  obtain ⟨mt, hmt⟩ := markTexts
  have rd0 : ∀ (l : List S48) (i : Nat) (h : i < l.length), rd_T48 l (i : Int) = l[i] := fun l i h => by simp [rd_T48, List.getD_eq_getElem?_getD, List.getElem?_eq_getElem h]
  have rd1 : ∀ (l : List S48) (i : Nat) (v : S48) (h : i < l.length), rd_T48 (l.set i v) (i : Int) = v := fun l i v h => by rw [rd0 _ _ (by rw [List.length_set]; exact h)]; simp
  obtain ⟨l', _, h, _⟩ : ∃ l', l'.length = l.length ∧ Ev (fun k => laws_markRefS.l0 k l m 0) (m + 4 * l.length, l') ∧ Ev (fun k => countL k l' m 0) (m + 4 * l.length) := by
    refine ev_mark_loop (L := laws_markRefS.l0) (H := countL) (mk := fun x m => ⟨mt (m), m + 1, m + 2, (Int.tmod (m + 3) 3 == 0)⟩) (c := 4) (by omega) ?_ ?_ ?_ ?_ l m hl h0 hm
    · intro l m i hi hl h0 hm r hr
      have c1 : (i : Int) < (l.length : Int) := by omega
      have w := wrap_i (show i < 4611686018427387904 by omega)
      have w1 : wrap64 (m + 1) = m + 1 := by unfold wrap64; omega
      have w2 : wrap64 (m + 1 + 1) = m + 2 := by unfold wrap64; omega
      have w3 : wrap64 (m + 2 + 1) = m + 3 := by unfold wrap64; omega
      have w4 : wrap64 (m + 3 + 1) = m + 4 := by unfold wrap64; omega
      refine Ev.succ (g := fun k => laws_markRefS.l0 k l m (i : Int)) ?_
      simp only [laws_markRefS.l0, c1, if_true, Int.natCast_nonneg, Option.bind_some, Int.toNat_natCast, rd0 l i hi, rd1 l i _ hi, List.set_set, w, w1, w2, w3, w4]
      refine Ev.bind (hmt (m) (by omega) (by omega)) ?_
      (try simp only [if_true, rd0 l i hi, rd1 l i _ hi, List.set_set, Option.bind_some, w1, w2, w3, w4, bne_self_eq_false, Bool.false_eq_true, if_false])
      exact hr
    · intro l m i hi y hy hl h0 hm r hr
      have c1 : (i : Int) < (l.length : Int) := by omega
      have w := wrap_i (show i < 4611686018427387904 by omega)
      refine Ev.succ (g := fun k => countL k l m (i : Int)) ?_
      simp only [countL, c1, if_true, w]
      exact hr
    · intro l m k
      simp only [laws_markRefS.l0]
      rw [if_neg (by omega)]
    · intro l m k
      simp only [countL]
      rw [if_neg (by omega)]
  exact ⟨l', h⟩
theorem FnExactNewWatch : laws_FnExactNewWatch.Pure := by
  intro l0 a1 w0 w1
  refine Ev.rounds ?_
  unfold laws_FnExactNewWatch.f
  by_cases hn1 : (a1.size : Int) > 1048576
  · simp only [hn1, if_true]
    exact Ev.now _
  simp only [hn1, if_false]
  obtain ⟨r, hr, hrl, hrs⟩ := szRefS_ev l0 w0.1 w0.2 1048576 (by omega) (by omega)
  refine Ev.bind hr ?_
  by_cases hn : r < 0
  · simp only [hn, if_true]
    exact Ev.now _
  simp only [hn, if_false]
  have hl := hrs (by omega)
  have ht := toRefS_ev l0 hl
  have hl2 : (l0.map cvRef).length ≤ 1048576 := by simpa using hl
  obtain ⟨n', s, c, hs, hi⟩ := new_both (l0.map cvRef) a1 hl2
  refine Ev.bind ht (Ev.bind hs (Ev.bind ht (Ev.bind hi (Ev.bind (eq_nil n' s) ?_))))
  simp only [if_true, bne_self_eq_false]
  refine Ev.succ ?_
  simp only [laws_FnExactNewWatch.j0, Bool.false_eq_true, if_false]
  refine Ev.bind ht (Ev.bind (eqRefS_ev _ hl2) ?_)
  simp only [if_true]
  obtain ⟨la, hmA⟩ := markRefs_ev (l0.map cvRef) 1 hl2 (by omega) (by omega)
  refine Ev.bind hmA ?_
  have n1 : ¬ (1 + 4 * ((l0.map cvRef).length : Int) < 0) := by omega
  simp only [n1, if_false]
  refine Ev.bind (eq_nil n' s) ?_
  simp only [if_true, bne_self_eq_false]
  refine Ev.succ ?_
  simp only [laws_FnExactNewWatch.j1, Bool.false_eq_true, if_false]
  have n2 : ¬ ((1 : Int) < 0) := by omega
  refine Ev.bind (mark_nil n' s) (Ev.bind (held_nil n' s) ?_)
  simp only [n2, if_false, if_true]
  refine Ev.bind ht (Ev.bind hi (Ev.bind (eq_nil n' s) ?_))
  simp only [if_true, bne_self_eq_false]
  refine Ev.succ ?_
  simp only [laws_FnExactNewWatch.j2, Bool.false_eq_true, if_false]
  refine Ev.bind (held_nil n' s) ?_
  simp only [n2, if_false, if_true]
  exact Ev.now _
end Go.Proofs.Ytdcjmldcmlmcdaa.Pure
end
