/- Parts of the proof of the law FnExactScanSnap, joined into one text. -/
import Derived.Test.YtcpljigliklgcaaMFnExactScanSnap5
section
namespace Go.Proofs.Ytcpljigliklgcaa.Q
open Go.RowKit Go.Proofs.YtcpljigliklgcaaW.PrintWords Go.Proofs.YtcpljigliklgcaaW.PrintLast Go.Proofs.YtcpljigliklgcaaW.PrintMore
attribute [local go_sem] max2_int min2_int max_two min_two max_three min_three max_four min_four   -- for this text's walks alone
set_option linter.unusedVariables false
set_option linter.unusedSimpArgs false
attribute [local go_sem] bin_leq bin_gtr bin_geq
mutual
def laws_FnExactScanSnap.j0 : Nat → ByteArray → ByteArray → List (S51) → Int → List (S51) → Int → Bool → List (S209) → List (S211) → ByteArray → Int → List (S118) → List (S178) → Option (Bool)
  | 0, _, _, _, _, _, _, _, _, _, _, _, _, _ => none
  | k + 1, x2, x3, x10, x11, x13, x14, x65, x768000, x768001, x769000, x769001, x790000, x790001 => if x65 = true then (some false) else ((laws_toBase.f k x768000 x768001).bind fun bt797 => ((laws_eqBase.f k x790000 x790001 bt797.1 bt797.2).bind fun t803 => (if t803 = true then ((laws_markBase.f k x790000 x790001 1).bind fun t804 => (if t804 < 0 then (laws_FnExactScanSnap.j1 k x2 x3 x10 x11 x13 true x768000 x768001 x769000 x769001) else ((laws_eqEntryS.f k x13 x10).bind fun t805 => (if t805 = true then (laws_FnExactScanSnap.j1 k x2 x3 x10 x11 x13 (x14 != x11) x768000 x768001 x769000 x769001) else (laws_FnExactScanSnap.j1 k x2 x3 x10 x11 x13 true x768000 x768001 x769000 x769001))))) else (some false))))
def laws_FnExactScanSnap.j1 : Nat → ByteArray → ByteArray → List (S51) → Int → List (S51) → Bool → List (S209) → List (S211) → ByteArray → Int → Option (Bool)
  | 0, _, _, _, _, _, _, _, _, _, _ => none
  | k + 1, x2, x3, x10, x11, x13, x86, x768000, x768001, x769000, x769001 => if x86 = true then (some false) else ((laws_markEntryS.f k x13 1).bind fun bt806 => ((laws_heldEntryS.f k bt806.2 1).bind fun t808 => (if t808 < 0 then (some false) else (if t808 = bt806.1 then ((laws_toBase.f k x768000 x768001).bind fun bt809 => ((laws_toSnap.f x769000 x769001).bind fun bt815 => ((impl_ScanSnap.f k bt809.1 bt809.2 bt815.1 bt815.2 x2 x3).bind fun bt817 => ((laws_eqEntryS.f k bt817.1 x10).bind fun t821 => (if t821 = true then (laws_FnExactScanSnap.j2 k bt806.2 bt806.1 (bt817.2 != x11)) else (laws_FnExactScanSnap.j2 k bt806.2 bt806.1 true)))))) else (some false)))))
def laws_FnExactScanSnap.j2 : Nat → List (S51) → Int → Bool → Option (Bool)
  | 0, _, _, _ => none
  | k + 1, x13, x16, x116 => if x116 = true then (some false) else ((laws_heldEntryS.f k x13 1).bind fun t822 => (if t822 < 0 then (some false) else (if t822 = x16 then (some true) else (some false))))
end
def laws_FnExactScanSnap.f (k : Nat) (l0_0 : List (S209)) (l0_1 : List (S211)) (a1_0 : ByteArray) (a1_1 : Int) (a2 : ByteArray) (a3 : ByteArray) : Option (Bool) := if (a2.size : Int) > 1048576 then (some true) else (if (a3.size : Int) > 1048576 then (some true) else ((laws_szBase.f k l0_0 l0_1 1048576).bind fun t769 => (if t769 < 0 then (some true) else ((laws_szSnap.f a1_0 a1_1 t769).bind fun t770 => (if t770 < 0 then (some true) else ((laws_toBase.f k l0_0 l0_1).bind fun bt771 => ((laws_toSnap.f a1_0 a1_1).bind fun bt777 => ((spec_ScanSnap.f k bt771.1 bt771.2 bt777.1 bt777.2 a2 a3).bind fun bt779 => ((laws_toBase.f k l0_0 l0_1).bind fun bt783 => ((laws_toSnap.f a1_0 a1_1).bind fun bt790 => ((impl_ScanSnap.f k bt783.1 bt783.2 bt790.1 bt790.2 a2 a3).bind fun bt792 => ((laws_eqEntryS.f k bt792.1 bt779.1).bind fun t796 => (if t796 = true then (laws_FnExactScanSnap.j0 k a2 a3 bt779.1 bt779.2 bt792.1 bt792.2 (bt792.2 != bt779.2) l0_0 l0_1 a1_0 a1_1 bt783.1 bt783.2) else (laws_FnExactScanSnap.j0 k a2 a3 bt779.1 bt779.2 bt792.1 bt792.2 true l0_0 l0_1 a1_0 a1_1 bt783.1 bt783.2))))))))))))))
def laws_FnExactScanSnap.T12 : Bool × List (List Nat × List Nat) := (true, [([], []), ([0], [0]), ([], []), ([2, 1], [2]), ([], []), ([], []), ([1, 3, 4, 5, 3], [1, 3, 4, 5]), ([6], [6]), ([7], [7]), ([7], [7]), ([8, 6, 0, 1, 2, 3, 4, 5, 6, 7, 8], [8]), ([9, 10, 0, 1, 2, 3, 4, 5, 6, 7, 8, 9, 10], [9])])
def laws_FnExactScanSnap.B12 : List Nat := [0, 1, 0, 7, 0, 0, 63, 127, 255, 255, 511, 2047]
theorem laws_FnExactScanSnap.tab12 : rtab .any (opsOf Try.f9 12) = laws_FnExactScanSnap.T12 := by kernel_rfl
theorem laws_FnExactScanSnap.bits12 : waitsOk laws_FnExactScanSnap.T12.2 laws_FnExactScanSnap.B12 = true := by kernel_rfl
def laws_FnExactScanSnap.T14 : Bool × List (List Nat × List Nat) := (true, [([], []), ([], []), ([1], [1]), ([], []), ([], []), ([0, 2, 3, 4, 2], [0, 2, 3, 4]), ([5], [5]), ([6], [6]), ([6], [6]), ([7, 5, 0, 1, 2, 3, 4, 5, 6, 7], [7]), ([8, 9, 0, 1, 2, 3, 4, 5, 6, 7, 8, 9], [8])])
def laws_FnExactScanSnap.B14 : List Nat := [0, 0, 2, 0, 0, 31, 63, 127, 127, 255, 1023]
theorem laws_FnExactScanSnap.tab14 : rtab .any (opsOf Try.f9 14) = laws_FnExactScanSnap.T14 := by kernel_rfl
theorem laws_FnExactScanSnap.bits14 : waitsOk laws_FnExactScanSnap.T14.2 laws_FnExactScanSnap.B14 = true := by kernel_rfl
def laws_FnExactScanSnap.T31 : Bool × List (List Nat × List Nat) := (true, [([], []), ([0], [0]), ([], []), ([2, 1], [2]), ([], []), ([], []), ([1, 3, 4, 5, 3], [1, 3, 4, 5]), ([6], [6]), ([7], [7]), ([7], [7]), ([8, 6, 0, 1, 2, 3, 4, 5, 6, 7, 8], [8]), ([9, 10, 0, 1, 2, 3, 4, 5, 6, 7, 8, 9, 10], [9])])
def laws_FnExactScanSnap.B31 : List Nat := [0, 1, 0, 7, 0, 0, 63, 127, 255, 255, 511, 2047]
theorem laws_FnExactScanSnap.tab31 : rtab .any (opsOf Try.f9 31) = laws_FnExactScanSnap.T31 := by kernel_rfl
theorem laws_FnExactScanSnap.bits31 : waitsOk laws_FnExactScanSnap.T31.2 laws_FnExactScanSnap.B31 = true := by kernel_rfl
set_option maxHeartbeats 8000000 in
set_option maxRecDepth 100000 in
theorem laws_FnExactScanSnap.calls (k : Nat) (A0_0 : Option Addr) (c0_0 : Nat) (l0_0 : List (S209)) (A0_1 : Option Addr) (c0_1 : Nat) (l0_1 : List (S211)) (a1_0 : ByteArray) (a1_1 : Int) (a2 : ByteArray) (a3 : ByteArray) (w : World) (hr0_0 : Kd.C k209 w A0_0 l0_0.length l0_0) (hc0_0 : l0_0.length ≤ c0_0) (hr0_1 : Kd.C k211 w A0_1 l0_1.length l0_1) (hc0_1 : l0_1.length ≤ c0_1) (h : laws_FnExactScanSnap.f k l0_0 l0_1 a1_0 a1_1 a2 a3 = some true) :
    Calls Try.prog 9 #[.agg #[.slice A0_0 l0_0.length c0_0, .slice A0_1 l0_1.length c0_1], .agg #[.string a1_0, .int .i64 a1_1], .string a2, .string a3] w fun e w' => e = .returned (.bool true) ∧ Below w.heap.size w w' := by
  have hu57 := Try.underlying57
  have hu59 := Try.underlying59
  have hu66 := Try.underlying66
  have HR0_0 := Aside0.mk hr0_0
  have HC0_0 := Aside0.mk hc0_0
  clear hr0_0 hc0_0
  have HR0_1 := Aside0.mk hr0_1
  have HC0_1 := Aside0.mk hc0_1
  clear hr0_1 hc0_1
  have HB := Aside0.mk (Below.refl w.heap.size w)
  have H : (if (a2.size : Int) > 1048576 then (some true) else (if (a3.size : Int) > 1048576 then (some true) else ((laws_szBase.f k l0_0 l0_1 1048576).bind fun t769 => (if t769 < 0 then (some true) else ((laws_szSnap.f a1_0 a1_1 t769).bind fun t770 => (if t770 < 0 then (some true) else ((laws_toBase.f k l0_0 l0_1).bind fun bt771 => ((laws_toSnap.f a1_0 a1_1).bind fun bt777 => ((spec_ScanSnap.f k bt771.1 bt771.2 bt777.1 bt777.2 a2 a3).bind fun bt779 => ((laws_toBase.f k l0_0 l0_1).bind fun bt783 => ((laws_toSnap.f a1_0 a1_1).bind fun bt790 => ((impl_ScanSnap.f k bt783.1 bt783.2 bt790.1 bt790.2 a2 a3).bind fun bt792 => ((laws_eqEntryS.f k bt792.1 bt779.1).bind fun t796 => (if t796 = true then (laws_FnExactScanSnap.j0 k a2 a3 bt779.1 bt779.2 bt792.1 bt792.2 (bt792.2 != bt779.2) l0_0 l0_1 a1_0 a1_1 bt783.1 bt783.2) else (laws_FnExactScanSnap.j0 k a2 a3 bt779.1 bt779.2 bt792.1 bt792.2 true l0_0 l0_1 a1_0 a1_1 bt783.1 bt783.2))))))))))))))) = some true := h
  clear h
  by_cases c5 : (a2.size : Int) > 1048576
  · rw [if_pos c5] at H
    have c5b0 : decide (1048576 < (a2.size : Int)) = true := decide_eq_true c5
    have c5b1 : decide (1048576 < a2.size) = true := decide_eq_true (by omega)
    clear c5
    clear H
    go_enter Try.func9, Try.ntmps9
    go_wp2_with (first | ((with_reducible refine gate_dst (N := 4) rfl ?_); refine bE (N := 4) (cs := #[.slice A0_0 l0_0.length c0_0, .slice A0_1 l0_1.length c0_1]) (t := 57) ?_; intro gb767 hg w6 hbox hb; have n0_ := Aside0.mk (below_step (w := w) bW hb); have n1_ := Aside0.mk (hbox); have n2_ := Aside0.mk (gS (w := w) hg); have n3_ := n2_; clear HB; have HB := n0_; have BK767 := n1_; have GW767 := n2_; have GE767 := n3_; clear n0_ n1_ n2_ n3_; clear hb hbox hg) | ((with_reducible refine gate_dst (N := 5) rfl ?_); refine bE (N := 5) (cs := #[.string a1_0, .int .i64 a1_1]) (t := 59) ?_; intro gb768 hg w7 hbox hb; have n0_ := Aside0.mk (kb BK767 hb); have n1_ := Aside0.mk (below_step (w := w) bW hb); have n2_ := Aside0.mk (hbox); have n3_ := Aside0.mk (gS (w := w) hg); have n4_ := n3_; have n5_ := Aside0.mk (nL BK767 hg); have n6_ := Aside0.mk (nG BK767 hg); clear BK767; clear HB; have BK767 := n0_; have HB := n1_; have BK768 := n2_; have GW768 := n3_; have GE768 := n4_; have NB767_768 := n5_; have NB768_767 := n6_; clear n0_ n1_ n2_ n3_ n4_ n5_ n6_; clear hb hbox hg))
    go_ret
    exact ⟨rE, bW⟩
  · rw [if_neg c5] at H
    have c5b0 : decide (1048576 < (a2.size : Int)) = false := decide_eq_false c5
    have c5b1 : decide (1048576 < a2.size) = false := decide_eq_false (by omega)
    clear c5
    by_cases c8 : (a3.size : Int) > 1048576
    · rw [if_pos c8] at H
      have c8b0 : decide (1048576 < (a3.size : Int)) = true := decide_eq_true c8
      have c8b1 : decide (1048576 < a3.size) = true := decide_eq_true (by omega)
      clear c8
      clear H
      go_enter Try.func9, Try.ntmps9
      go_wp2_with (first | ((with_reducible refine gate_dst (N := 4) rfl ?_); refine bE (N := 4) (cs := #[.slice A0_0 l0_0.length c0_0, .slice A0_1 l0_1.length c0_1]) (t := 57) ?_; intro gb767 hg w9 hbox hb; have n0_ := Aside0.mk (below_step (w := w) bW hb); have n1_ := Aside0.mk (hbox); have n2_ := Aside0.mk (gS (w := w) hg); have n3_ := n2_; clear HB; have HB := n0_; have BK767 := n1_; have GW767 := n2_; have GE767 := n3_; clear n0_ n1_ n2_ n3_; clear hb hbox hg) | ((with_reducible refine gate_dst (N := 5) rfl ?_); refine bE (N := 5) (cs := #[.string a1_0, .int .i64 a1_1]) (t := 59) ?_; intro gb768 hg w10 hbox hb; have n0_ := Aside0.mk (kb BK767 hb); have n1_ := Aside0.mk (below_step (w := w) bW hb); have n2_ := Aside0.mk (hbox); have n3_ := Aside0.mk (gS (w := w) hg); have n4_ := n3_; have n5_ := Aside0.mk (nL BK767 hg); have n6_ := Aside0.mk (nG BK767 hg); clear BK767; clear HB; have BK767 := n0_; have HB := n1_; have BK768 := n2_; have GW768 := n3_; have GE768 := n4_; have NB767_768 := n5_; have NB768_767 := n6_; clear n0_ n1_ n2_ n3_ n4_ n5_ n6_; clear hb hbox hg))
      go_ret
      exact ⟨rE, bW⟩
    · rw [if_neg c8] at H
      have c8b0 : decide (1048576 < (a3.size : Int)) = false := decide_eq_false c8
      have c8b1 : decide (1048576 < a3.size) = false := decide_eq_false (by omega)
      clear c8
      replace H := Option.bind_eq_some_iff.mp H
      obtain ⟨t769, A110, H⟩ := H
      replace H : (if t769 < 0 then (some true) else ((laws_szSnap.f a1_0 a1_1 t769).bind fun t770 => (if t770 < 0 then (some true) else ((laws_toBase.f k l0_0 l0_1).bind fun bt771 => ((laws_toSnap.f a1_0 a1_1).bind fun bt777 => ((spec_ScanSnap.f k bt771.1 bt771.2 bt777.1 bt777.2 a2 a3).bind fun bt779 => ((laws_toBase.f k l0_0 l0_1).bind fun bt783 => ((laws_toSnap.f a1_0 a1_1).bind fun bt790 => ((impl_ScanSnap.f k bt783.1 bt783.2 bt790.1 bt790.2 a2 a3).bind fun bt792 => ((laws_eqEntryS.f k bt792.1 bt779.1).bind fun t796 => (if t796 = true then (laws_FnExactScanSnap.j0 k a2 a3 bt779.1 bt779.2 bt792.1 bt792.2 (bt792.2 != bt779.2) l0_0 l0_1 a1_0 a1_1 bt783.1 bt783.2) else (laws_FnExactScanSnap.j0 k a2 a3 bt779.1 bt779.2 bt792.1 bt792.2 true l0_0 l0_1 a1_0 a1_1 bt783.1 bt783.2)))))))))))) = some true := H
      have A11 := Aside0.mk A110
      clear A110
      by_cases c12 : t769 < 0
      · rw [if_pos c12] at H
        have c12b0 : decide (t769 < 0) = true := decide_eq_true c12
        clear c12
        clear H
        go_enter Try.func9, Try.ntmps9
        go_wp2_with (first | ((with_reducible refine gate_dst (N := 4) rfl ?_); refine bE (N := 4) (cs := #[.slice A0_0 l0_0.length c0_0, .slice A0_1 l0_1.length c0_1]) (t := 57) ?_; intro gb767 hg w13 hbox hb; have n0_ := Aside0.mk (below_step (w := w) bW hb); have n1_ := Aside0.mk (hbox); have n2_ := Aside0.mk (gS (w := w) hg); have n3_ := n2_; clear HB; have HB := n0_; have BK767 := n1_; have GW767 := n2_; have GE767 := n3_; clear n0_ n1_ n2_ n3_; clear hb hbox hg) | ((with_reducible refine gate_dst (N := 5) rfl ?_); refine bE (N := 5) (cs := #[.string a1_0, .int .i64 a1_1]) (t := 59) ?_; intro gb768 hg w14 hbox hb; have n0_ := Aside0.mk (kb BK767 hb); have n1_ := Aside0.mk (below_step (w := w) bW hb); have n2_ := Aside0.mk (hbox); have n3_ := Aside0.mk (gS (w := w) hg); have n4_ := n3_; have n5_ := Aside0.mk (nL BK767 hg); have n6_ := Aside0.mk (nG BK767 hg); clear BK767; clear HB; have BK767 := n0_; have HB := n1_; have BK768 := n2_; have GW768 := n3_; have GE768 := n4_; have NB767_768 := n5_; have NB768_767 := n6_; clear n0_ n1_ n2_ n3_ n4_ n5_ n6_; clear hb hbox hg; have hnb15 := NB767_768.out; have hnc15 := NB768_767.out; obtain ⟨hcz16_0, hcz16_1⟩ := cz2 BK767; obtain ⟨hfz16_0, hfz16_1⟩ := fz2 BK767) | ((with_reducible refine gate_callee (f := 38) rfl ?_); refine goesL_ (some 28) rfl rfl Try.func38 (by kernel_rfl) rfl #[.agg #[.slice A0_0 l0_0.length c0_0, .slice A0_1 l0_1.length c0_1], .int .i64 1048576] rfl gA ?_; (with_reducible refine (laws_szBase.calls k _ _ l0_0 _ _ l0_1 1048576 t769 _ ?side1 ?side2 ?side3 ?side4 A11.out).mono ?_); (case side1 => exact cB HR0_0); (case side2 => exact HC0_0.out); (case side3 => exact cB HR0_1); (case side4 => exact HC0_1.out); rintro e w17 ⟨rfl, hb⟩; refine ⟨_, rfl, ?_⟩; have n0_ := Aside0.mk (kb BK767 hb); have n1_ := Aside0.mk (kb BK768 hb); have n2_ := Aside0.mk (below_step (w := w) bW hb); clear BK767; clear BK768; clear HB; have BK767 := n0_; have BK768 := n1_; have HB := n2_; clear n0_ n1_ n2_; (try clear hb); (try clear hb2); (try clear hk); (try clear hi)))
        go_ret
        exact ⟨rE, bW⟩
      · rw [if_neg c12] at H
        have c12b0 : decide (t769 < 0) = false := decide_eq_false c12
        clear c12
        replace H := Option.bind_eq_some_iff.mp H
        obtain ⟨t770, A180, H⟩ := H
        replace H : (if t770 < 0 then (some true) else ((laws_toBase.f k l0_0 l0_1).bind fun bt771 => ((laws_toSnap.f a1_0 a1_1).bind fun bt777 => ((spec_ScanSnap.f k bt771.1 bt771.2 bt777.1 bt777.2 a2 a3).bind fun bt779 => ((laws_toBase.f k l0_0 l0_1).bind fun bt783 => ((laws_toSnap.f a1_0 a1_1).bind fun bt790 => ((impl_ScanSnap.f k bt783.1 bt783.2 bt790.1 bt790.2 a2 a3).bind fun bt792 => ((laws_eqEntryS.f k bt792.1 bt779.1).bind fun t796 => (if t796 = true then (laws_FnExactScanSnap.j0 k a2 a3 bt779.1 bt779.2 bt792.1 bt792.2 (bt792.2 != bt779.2) l0_0 l0_1 a1_0 a1_1 bt783.1 bt783.2) else (laws_FnExactScanSnap.j0 k a2 a3 bt779.1 bt779.2 bt792.1 bt792.2 true l0_0 l0_1 a1_0 a1_1 bt783.1 bt783.2)))))))))) = some true := H
        have A18 := Aside0.mk A180
        clear A180
        by_cases c19 : t770 < 0
        · rw [if_pos c19] at H
          have c19b0 : decide (t770 < 0) = true := decide_eq_true c19
          clear c19
          clear H
          go_enter Try.func9, Try.ntmps9
          go_wp2_with (first | ((with_reducible refine gate_dst (N := 4) rfl ?_); refine bE (N := 4) (cs := #[.slice A0_0 l0_0.length c0_0, .slice A0_1 l0_1.length c0_1]) (t := 57) ?_; intro gb767 hg w20 hbox hb; have n0_ := Aside0.mk (below_step (w := w) bW hb); have n1_ := Aside0.mk (hbox); have n2_ := Aside0.mk (gS (w := w) hg); have n3_ := n2_; clear HB; have HB := n0_; have BK767 := n1_; have GW767 := n2_; have GE767 := n3_; clear n0_ n1_ n2_ n3_; clear hb hbox hg) | ((with_reducible refine gate_dst (N := 5) rfl ?_); refine bE (N := 5) (cs := #[.string a1_0, .int .i64 a1_1]) (t := 59) ?_; intro gb768 hg w21 hbox hb; have n0_ := Aside0.mk (kb BK767 hb); have n1_ := Aside0.mk (below_step (w := w) bW hb); have n2_ := Aside0.mk (hbox); have n3_ := Aside0.mk (gS (w := w) hg); have n4_ := n3_; have n5_ := Aside0.mk (nL BK767 hg); have n6_ := Aside0.mk (nG BK767 hg); clear BK767; clear HB; have BK767 := n0_; have HB := n1_; have BK768 := n2_; have GW768 := n3_; have GE768 := n4_; have NB767_768 := n5_; have NB768_767 := n6_; clear n0_ n1_ n2_ n3_ n4_ n5_ n6_; clear hb hbox hg; have hnb22 := NB767_768.out; have hnc22 := NB768_767.out; obtain ⟨hcz23_0, hcz23_1⟩ := cz2 BK767; obtain ⟨hfz23_0, hfz23_1⟩ := fz2 BK767) | ((with_reducible refine gate_callee (f := 38) rfl ?_); refine goesL_ (some 28) rfl rfl Try.func38 (by kernel_rfl) rfl #[.agg #[.slice A0_0 l0_0.length c0_0, .slice A0_1 l0_1.length c0_1], .int .i64 1048576] rfl gA ?_; (with_reducible refine (laws_szBase.calls k _ _ l0_0 _ _ l0_1 1048576 t769 _ ?side1 ?side2 ?side3 ?side4 A11.out).mono ?_); (case side1 => exact cB HR0_0); (case side2 => exact HC0_0.out); (case side3 => exact cB HR0_1); (case side4 => exact HC0_1.out); rintro e w24 ⟨rfl, hb⟩; refine ⟨_, rfl, ?_⟩; have n0_ := Aside0.mk (kb BK767 hb); have n1_ := Aside0.mk (kb BK768 hb); have n2_ := Aside0.mk (below_step (w := w) bW hb); clear BK767; clear BK768; clear HB; have BK767 := n0_; have BK768 := n1_; have HB := n2_; clear n0_ n1_ n2_; (try clear hb); (try clear hb2); (try clear hk); (try clear hi); obtain ⟨hcz25_0, hcz25_1⟩ := cz2 BK768; obtain ⟨hfz25_0, hfz25_1⟩ := fz2 BK768) | ((with_reducible refine gate_callee (f := 39) rfl ?_); refine goesL_ (some 33) rfl rfl Try.func39 (by kernel_rfl) rfl #[.agg #[.string a1_0, .int .i64 a1_1], .int .i64 t769] rfl gA ?_; (with_reducible refine (laws_szSnap.calls a1_0 a1_1 t769 t770 _ A18.out).mono ?_); rintro e w26 ⟨rfl, hb⟩; refine ⟨_, rfl, ?_⟩; have n0_ := Aside0.mk (kb BK767 hb); have n1_ := Aside0.mk (kb BK768 hb); have n2_ := Aside0.mk (below_step (w := w) bW hb); clear BK767; clear BK768; clear HB; have BK767 := n0_; have BK768 := n1_; have HB := n2_; clear n0_ n1_ n2_; (try clear hb); (try clear hb2); (try clear hk); (try clear hi)))
          go_ret
          exact ⟨rE, bW⟩
        · rw [if_neg c19] at H
          have c19b0 : decide (t770 < 0) = false := decide_eq_false c19
          clear c19
          replace H := Option.bind_eq_some_iff.mp H
          obtain ⟨⟨t771, t774⟩, A270, H⟩ := H
          replace H : ((laws_toSnap.f a1_0 a1_1).bind fun bt777 => ((spec_ScanSnap.f k t771 t774 bt777.1 bt777.2 a2 a3).bind fun bt779 => ((laws_toBase.f k l0_0 l0_1).bind fun bt783 => ((laws_toSnap.f a1_0 a1_1).bind fun bt790 => ((impl_ScanSnap.f k bt783.1 bt783.2 bt790.1 bt790.2 a2 a3).bind fun bt792 => ((laws_eqEntryS.f k bt792.1 bt779.1).bind fun t796 => (if t796 = true then (laws_FnExactScanSnap.j0 k a2 a3 bt779.1 bt779.2 bt792.1 bt792.2 (bt792.2 != bt779.2) l0_0 l0_1 a1_0 a1_1 bt783.1 bt783.2) else (laws_FnExactScanSnap.j0 k a2 a3 bt779.1 bt779.2 bt792.1 bt792.2 true l0_0 l0_1 a1_0 a1_1 bt783.1 bt783.2)))))))) = some true := H
          have A27 := Aside0.mk A270
          clear A270
          replace H := Option.bind_eq_some_iff.mp H
          obtain ⟨⟨t777, t778⟩, A280, H⟩ := H
          replace H : ((spec_ScanSnap.f k t771 t774 t777 t778 a2 a3).bind fun bt779 => ((laws_toBase.f k l0_0 l0_1).bind fun bt783 => ((laws_toSnap.f a1_0 a1_1).bind fun bt790 => ((impl_ScanSnap.f k bt783.1 bt783.2 bt790.1 bt790.2 a2 a3).bind fun bt792 => ((laws_eqEntryS.f k bt792.1 bt779.1).bind fun t796 => (if t796 = true then (laws_FnExactScanSnap.j0 k a2 a3 bt779.1 bt779.2 bt792.1 bt792.2 (bt792.2 != bt779.2) l0_0 l0_1 a1_0 a1_1 bt783.1 bt783.2) else (laws_FnExactScanSnap.j0 k a2 a3 bt779.1 bt779.2 bt792.1 bt792.2 true l0_0 l0_1 a1_0 a1_1 bt783.1 bt783.2))))))) = some true := H
          have A28 := Aside0.mk A280
          clear A280
          replace H := Option.bind_eq_some_iff.mp H
          obtain ⟨⟨t779, t782⟩, A290, H⟩ := H
          replace H : ((laws_toBase.f k l0_0 l0_1).bind fun bt783 => ((laws_toSnap.f a1_0 a1_1).bind fun bt790 => ((impl_ScanSnap.f k bt783.1 bt783.2 bt790.1 bt790.2 a2 a3).bind fun bt792 => ((laws_eqEntryS.f k bt792.1 t779).bind fun t796 => (if t796 = true then (laws_FnExactScanSnap.j0 k a2 a3 t779 t782 bt792.1 bt792.2 (bt792.2 != t782) l0_0 l0_1 a1_0 a1_1 bt783.1 bt783.2) else (laws_FnExactScanSnap.j0 k a2 a3 t779 t782 bt792.1 bt792.2 true l0_0 l0_1 a1_0 a1_1 bt783.1 bt783.2)))))) = some true := H
          have A29 := Aside0.mk A290
          clear A290
          replace H := Option.bind_eq_some_iff.mp H
          obtain ⟨⟨t783, t786⟩, A300, H⟩ := H
          replace H : ((laws_toSnap.f a1_0 a1_1).bind fun bt790 => ((impl_ScanSnap.f k t783 t786 bt790.1 bt790.2 a2 a3).bind fun bt792 => ((laws_eqEntryS.f k bt792.1 t779).bind fun t796 => (if t796 = true then (laws_FnExactScanSnap.j0 k a2 a3 t779 t782 bt792.1 bt792.2 (bt792.2 != t782) l0_0 l0_1 a1_0 a1_1 t783 t786) else (laws_FnExactScanSnap.j0 k a2 a3 t779 t782 bt792.1 bt792.2 true l0_0 l0_1 a1_0 a1_1 t783 t786))))) = some true := H
          have A30 := Aside0.mk A300
          clear A300
          replace H := Option.bind_eq_some_iff.mp H
          obtain ⟨⟨t790, t791⟩, A310, H⟩ := H
          replace H : ((impl_ScanSnap.f k t783 t786 t790 t791 a2 a3).bind fun bt792 => ((laws_eqEntryS.f k bt792.1 t779).bind fun t796 => (if t796 = true then (laws_FnExactScanSnap.j0 k a2 a3 t779 t782 bt792.1 bt792.2 (bt792.2 != t782) l0_0 l0_1 a1_0 a1_1 t783 t786) else (laws_FnExactScanSnap.j0 k a2 a3 t779 t782 bt792.1 bt792.2 true l0_0 l0_1 a1_0 a1_1 t783 t786)))) = some true := H
          have A31 := Aside0.mk A310
          clear A310
          replace H := Option.bind_eq_some_iff.mp H
          obtain ⟨⟨t792, t795⟩, A320, H⟩ := H
          replace H : ((laws_eqEntryS.f k t792 t779).bind fun t796 => (if t796 = true then (laws_FnExactScanSnap.j0 k a2 a3 t779 t782 t792 t795 (t795 != t782) l0_0 l0_1 a1_0 a1_1 t783 t786) else (laws_FnExactScanSnap.j0 k a2 a3 t779 t782 t792 t795 true l0_0 l0_1 a1_0 a1_1 t783 t786))) = some true := H
          have A32 := Aside0.mk A320
          clear A320
          have HC33 := Aside0.mk H
          clear H
          go_enter Try.func9, Try.ntmps9
          try go_wp2_with (first | ((with_reducible refine gate_dst (N := 4) rfl ?_); refine bE (N := 4) (cs := #[.slice A0_0 l0_0.length c0_0, .slice A0_1 l0_1.length c0_1]) (t := 57) ?_; intro gb767 hg w34 hbox hb; have n0_ := Aside0.mk (below_step (w := w) bW hb); have n1_ := Aside0.mk (hbox); have n2_ := Aside0.mk (gS (w := w) hg); have n3_ := n2_; clear HB; have HB := n0_; have BK767 := n1_; have GW767 := n2_; have GE767 := n3_; clear n0_ n1_ n2_ n3_; clear hb hbox hg) | ((with_reducible refine gate_dst (N := 5) rfl ?_); refine bE (N := 5) (cs := #[.string a1_0, .int .i64 a1_1]) (t := 59) ?_; intro gb768 hg w35 hbox hb; have n0_ := Aside0.mk (kb BK767 hb); have n1_ := Aside0.mk (below_step (w := w) bW hb); have n2_ := Aside0.mk (hbox); have n3_ := Aside0.mk (gS (w := w) hg); have n4_ := n3_; have n5_ := Aside0.mk (nL BK767 hg); have n6_ := Aside0.mk (nG BK767 hg); clear BK767; clear HB; have BK767 := n0_; have HB := n1_; have BK768 := n2_; have GW768 := n3_; have GE768 := n4_; have NB767_768 := n5_; have NB768_767 := n6_; clear n0_ n1_ n2_ n3_ n4_ n5_ n6_; clear hb hbox hg; have hnb36 := NB767_768.out; have hnc36 := NB768_767.out; obtain ⟨hcz37_0, hcz37_1⟩ := cz2 BK767; obtain ⟨hfz37_0, hfz37_1⟩ := fz2 BK767) | ((with_reducible refine gate_callee (f := 38) rfl ?_); refine goesL_ (some 28) rfl rfl Try.func38 (by kernel_rfl) rfl #[.agg #[.slice A0_0 l0_0.length c0_0, .slice A0_1 l0_1.length c0_1], .int .i64 1048576] rfl gA ?_; (with_reducible refine (laws_szBase.calls k _ _ l0_0 _ _ l0_1 1048576 t769 _ ?side1 ?side2 ?side3 ?side4 A11.out).mono ?_); (case side1 => exact cB HR0_0); (case side2 => exact HC0_0.out); (case side3 => exact cB HR0_1); (case side4 => exact HC0_1.out); rintro e w38 ⟨rfl, hb⟩; refine ⟨_, rfl, ?_⟩; have n0_ := Aside0.mk (kb BK767 hb); have n1_ := Aside0.mk (kb BK768 hb); have n2_ := Aside0.mk (below_step (w := w) bW hb); clear BK767; clear BK768; clear HB; have BK767 := n0_; have BK768 := n1_; have HB := n2_; clear n0_ n1_ n2_; (try clear hb); (try clear hb2); (try clear hk); (try clear hi); obtain ⟨hcz39_0, hcz39_1⟩ := cz2 BK768; obtain ⟨hfz39_0, hfz39_1⟩ := fz2 BK768) | ((with_reducible refine gate_callee (f := 39) rfl ?_); refine goesL_ (some 33) rfl rfl Try.func39 (by kernel_rfl) rfl #[.agg #[.string a1_0, .int .i64 a1_1], .int .i64 t769] rfl gA ?_; (with_reducible refine (laws_szSnap.calls a1_0 a1_1 t769 t770 _ A18.out).mono ?_); rintro e w40 ⟨rfl, hb⟩; refine ⟨_, rfl, ?_⟩; have n0_ := Aside0.mk (kb BK767 hb); have n1_ := Aside0.mk (kb BK768 hb); have n2_ := Aside0.mk (below_step (w := w) bW hb); clear BK767; clear BK768; clear HB; have BK767 := n0_; have BK768 := n1_; have HB := n2_; clear n0_ n1_ n2_; (try clear hb); (try clear hb2); (try clear hk); (try clear hi)))
          have n0_ := Aside0.mk (blk_drew BK767.out)
          have n1_ := Aside0.mk (blk_drew BK768.out)
          have n2_ := Aside0.mk (below_drew1 HB.out)
          clear BK767
          clear BK768
          clear HB
          have BK767 := n0_
          have BK768 := n1_
          have HB := n2_
          clear n0_ n1_ n2_
          refine start_ (n := 12) (S := fun w' => w'.cell? ⟨gb767, 0, none⟩ = some (.slice A0_0 l0_0.length c0_0) ∧ w'.cell? ⟨gb767, 1, none⟩ = some (.slice A0_1 l0_1.length c0_1) ∧ w'.cell? ⟨gb768, 0, none⟩ = some (.string a1_0) ∧ w'.cell? ⟨gb768, 1, none⟩ = some (.int .i64 a1_1)) (ds := []) #[false, false, false, false, false, false, false, false, false, false, false, false] (by kernel_rfl) rfl rfl ⟨(blk_cell BK767.out 0).trans rfl, (blk_cell BK767.out 1).trans rfl, (blk_cell BK768.out 0).trans rfl, (blk_cell BK768.out 1).trans rfl⟩ (fun hHeld => ?_); refine with_tabW laws_FnExactScanSnap.tab12 laws_FnExactScanSnap.bits12 (fun HT_ HW_ => ?_)
          generalize w40.drew = w41 at BK767 BK768 HB hHeld ⊢
          refine pure_ (i := 4) (N := some 41) (v := ?_) (a' := ?_) #[false, false, false, false, true, false, false, false, false, false, false, false] rfl rfl (any_of HT_.out (by kernel_rfl)) (fun _ _ _ h => h) (Or.inl ⟨by rfl, ?_⟩) ?_ ?_; rotate_left; (focus intro w'; go_simp; with_reducible rfl); rotate_left; (focus simp only [pt, i64_w, i32_w]; rfl)
          refine pure_ (i := 5) (N := some 42) (v := ?_) (a' := ?_) #[false, false, false, false, true, true, false, false, false, false, false, false] rfl rfl (any_of HT_.out (by kernel_rfl)) (fun _ _ _ h => h) (Or.inl ⟨by rfl, ?_⟩) ?_ ?_; rotate_left; (focus intro w'; go_simp; with_reducible rfl); rotate_left; (focus simp only [pt, i64_w, i32_w]; rfl)
          refine take_ (i := 0) (N := some 37) (v := ?_) (a' := ?_) #[true, false, false, false, true, true, false, false, false, false, false, false] rfl rfl (take_ofW HT_.out HW_.out (by kernel_rfl)) (fun _ _ _ h => h) (Or.inl ⟨by rfl, ?_⟩) hHeld ?_ ?_; rotate_left; (focus rintro w' ⟨s0, s1, s2, s3⟩; go_simp; with_reducible rfl); rotate_left; (focus simp only [pt, i64_w, i32_w]; rfl)
          refine take_ (i := 2) (N := some 39) (v := ?_) (a' := ?_) #[true, false, true, false, true, true, false, false, false, false, false, false] rfl rfl (take_ofW HT_.out HW_.out (by kernel_rfl)) (fun _ _ _ h => h) (Or.inl ⟨by rfl, ?_⟩) hHeld ?_ ?_; rotate_left; (focus rintro w' ⟨s0, s1, s2, s3⟩; go_simp; with_reducible rfl); rotate_left; (focus simp only [pt, i64_w, i32_w]; rfl)
          refine one_ (i := 1) (N := some 38) #[true, true, true, false, true, true, false, false, false, false, false, false] rfl rfl (one_of HT_.out (by kernel_rfl)) (by decide) (fun K hK => ?_)
          refine goes_ Try.func41 (by kernel_rfl) rfl #[.agg #[.slice A0_0 l0_0.length c0_0, .slice A0_1 l0_1.length c0_1]] (by rfl) rfl rfl gA ?_
          with_reducible refine (laws_toBase.calls k _ _ l0_0 _ _ l0_1 t771 t774 _ ?side1 ?side2 ?side3 ?side4 A27.out).mono ?_
          (case side1 => exact cB HR0_0)
          (case side2 => exact HC0_0.out)
          (case side3 => exact cB HR0_1)
          (case side4 => exact HC0_1.out)
          rintro e w42 ⟨v772, v775, rfl, ho0, ho1, hb⟩
          refine ⟨_, rfl, ?_⟩
          have n0_ := Aside0.mk (Kd.S_lower ho0 (below_size (w := w) bW))
          have n1_ := Aside0.mk (Kd.R_lower ho1 (below_size (w := w) bW))
          have n2_ := Aside0.mk (kb BK767 hb)
          have n3_ := Aside0.mk (kb BK768 hb)
          have n4_ := Aside0.mk (below_step (w := w) bW hb)
          clear BK767
          clear BK768
          clear HB
          have HO773 := n0_
          have HO776 := n1_
          have BK767 := n2_
          have BK768 := n3_
          have HB := n4_
          clear n0_ n1_ n2_ n3_ n4_
          (try clear hb)
          (try clear hb2)
          (try clear hk)
          (try clear hi)
          (try clear ho0)
          (try clear ho1)
          refine hK.out _ _ ⟨(blk_cell BK767.out 0).trans rfl, (blk_cell BK767.out 1).trans rfl, (blk_cell BK768.out 0).trans rfl, (blk_cell BK768.out 1).trans rfl⟩ (fun hHeld => ?_)
          clear hK K
          refine norm_ (a' := ?_) ?_ ?_
          rotate_left
          · show Act.put _ (some 38) _ = _
            simp only [Act.put, List.setIfInBounds_toArray, List.set_cons_zero, List.set_cons_succ, i64_w, i32_w]
            rfl
          refine one_ (i := 3) (N := some 40) #[true, true, true, true, true, true, false, false, false, false, false, false] rfl rfl (one_of HT_.out (by kernel_rfl)) (by decide) (fun K hK => ?_)
          refine goes_ Try.func42 (by kernel_rfl) rfl #[.agg #[.string a1_0, .int .i64 a1_1]] (by rfl) rfl rfl gA ?_
          with_reducible refine (laws_toSnap.calls a1_0 a1_1 t777 t778 _ A28.out).mono ?_
          rintro e w43 ⟨rfl, hb⟩
          refine ⟨_, rfl, ?_⟩
          have n0_ := Aside0.mk (Kd.S_below (pS HO773) hb)
          have n1_ := Aside0.mk (Kd.R_below (pR HO776) hb)
          have n2_ := Aside0.mk (kb BK767 hb)
          have n3_ := Aside0.mk (kb BK768 hb)
          have n4_ := Aside0.mk (below_step (w := w) bW hb)
          clear HO773
          clear HO776
          clear BK767
          clear BK768
          clear HB
          have HO773 := n0_
          have HO776 := n1_
          have BK767 := n2_
          have BK768 := n3_
          have HB := n4_
          clear n0_ n1_ n2_ n3_ n4_
          (try clear hb)
          (try clear hb2)
          (try clear hk)
          (try clear hi)
          obtain ⟨Ao44, co44, eo44⟩ := Kd.S_slice HO773.out
          (first | subst eo44 | (injection eo44 with f1_ f2_ f3_; have f4_ := f1_.symm; have f5_ := f3_.symm; clear f1_ f2_ f3_; subst f4_; subst f5_))
          obtain ⟨Ao45, co45, eo45⟩ := Kd.R_slice HO776.out
          (first | subst eo45 | (injection eo45 with f1_ f2_ f3_; have f4_ := f1_.symm; have f5_ := f3_.symm; clear f1_ f2_ f3_; subst f4_; subst f5_))
          refine hK.out _ _ ⟨(blk_cell BK767.out 0).trans rfl, (blk_cell BK767.out 1).trans rfl, (blk_cell BK768.out 0).trans rfl, (blk_cell BK768.out 1).trans rfl⟩ (fun hHeld => ?_)
          clear hK K
          refine norm_ (a' := ?_) ?_ ?_
          rotate_left
          · show Act.put _ (some 40) _ = _
            simp only [Act.put, List.setIfInBounds_toArray, List.set_cons_zero, List.set_cons_succ, i64_w, i32_w]
            rfl
          refine one_ (i := 6) (N := some 43) #[true, true, true, true, true, true, true, false, false, false, false, false] rfl rfl (one_of HT_.out (by kernel_rfl)) (by decide) (fun K hK => ?_)
          refine goes_ Try.func45 (by kernel_rfl) rfl #[.agg #[.slice Ao44 t771.length co44, .slice Ao45 t774.length co45], .agg #[.string t777, .int .i64 t778], .string a2, .string a3] (by rfl) rfl rfl gA ?_
          with_reducible refine (spec_ScanSnap.calls k _ _ t771 _ _ t774 t777 t778 a2 a3 t779 t782 _ ?side1 ?side2 ?side3 ?side4 A29.out).mono ?_
          (case side1 => repeat (first | exact (Kd.S_reads' HO773.out).2.2 | (with_reducible refine Kd.C_alloc ?_ _) | (with_reducible refine Kd.C_drewN ?_ _) | (with_reducible refine Kd.C_drew ?_)))
          (case side2 => exact (Kd.S_reads' HO773.out).2.1)
          (case side3 => repeat (first | exact (Kd.R_reads' HO776.out).2.2 | (with_reducible refine Kd.C_alloc ?_ _) | (with_reducible refine Kd.C_drewN ?_ _) | (with_reducible refine Kd.C_drew ?_)))
          (case side4 => exact (Kd.R_reads' HO776.out).2.1)
          rintro e w46 ⟨v780, rfl, ho0, hb⟩
          refine ⟨_, rfl, ?_⟩
          have n0_ := Aside0.mk (Kd.S_elder' (pS HO773) (Kd.R_base ho0) hb)
          have n1_ := Aside0.mk (Kd.R_below (pR HO776) hb)
          have n2_ := Aside0.mk (Kd.R_lower ho0 (below_size (w := w) bW))
          have n3_ := Aside0.mk (kb BK767 hb)
          have n4_ := Aside0.mk (kb BK768 hb)
          have n5_ := Aside0.mk (below_step (w := w) bW hb)
          clear HO773
          clear HO776
          clear BK767
          clear BK768
          clear HB
          have HO773 := n0_
          have HO776 := n1_
          have HO781 := n2_
          have BK767 := n3_
          have BK768 := n4_
          have HB := n5_
          clear n0_ n1_ n2_ n3_ n4_ n5_
          (try clear hb)
          (try clear hb2)
          (try clear hk)
          (try clear hi)
          (try clear ho0)
          refine hK.out _ _ ⟨(blk_cell BK767.out 0).trans rfl, (blk_cell BK767.out 1).trans rfl, (blk_cell BK768.out 0).trans rfl, (blk_cell BK768.out 1).trans rfl⟩ (fun hHeld => ?_)
          clear hK K
          refine norm_ (a' := ?_) ?_ ?_
          rotate_left
          · show Act.put _ (some 43) _ = _
            simp only [Act.put, List.setIfInBounds_toArray, List.set_cons_zero, List.set_cons_succ, i64_w, i32_w]
            rfl
          refine pure_ (i := 7) (N := some 36) (v := ?_) (a' := ?_) #[true, true, true, true, true, true, true, true, false, false, false, false] rfl rfl (any_of HT_.out (by kernel_rfl)) (fun _ _ _ h => h) (Or.inl ⟨by rfl, ?_⟩) ?_ ?_; rotate_left; (focus intro w'; go_simp; with_reducible rfl); rotate_left; (focus simp only [pt, i64_w, i32_w]; rfl)
          refine pure_ (i := 8) (N := some 44) (v := ?_) (a' := ?_) #[true, true, true, true, true, true, true, true, true, false, false, false] rfl rfl (any_of HT_.out (by kernel_rfl)) (fun _ _ _ h => h) (Or.inl ⟨by rfl, ?_⟩) ?_ ?_; rotate_left; (focus intro w'; go_simp; with_reducible rfl); rotate_left; (focus simp only [pt, i64_w, i32_w]; rfl)
          refine pure_ (i := 9) (N := some 45) (v := ?_) (a' := ?_) #[true, true, true, true, true, true, true, true, true, true, false, false] rfl rfl (any_of HT_.out (by kernel_rfl)) (fun _ _ _ h => h) (Or.inl ⟨by rfl, ?_⟩) ?_ ?_; rotate_left; (focus intro w'; go_simp; with_reducible rfl); rotate_left; (focus simp only [pt, i64_w, i32_w]; rfl)
          refine pure_ (i := 10) (N := some 10) (v := ?_) (a' := ?_) #[true, true, true, true, true, true, true, true, true, true, true, false] rfl rfl (any_of HT_.out (by kernel_rfl)) (fun _ _ _ h => h) (Or.inl ⟨by rfl, ?_⟩) ?_ ?_; rotate_left; (focus intro w'; go_simp; with_reducible rfl); rotate_left; (focus simp only [pt, i64_w, i32_w]; rfl)
          refine pure_ (i := 11) (N := some 11) (v := ?_) (a' := ?_) #[true, true, true, true, true, true, true, true, true, true, true, true] rfl rfl (any_of HT_.out (by kernel_rfl)) (fun _ _ _ h => h) (Or.inl ⟨by rfl, ?_⟩) ?_ ?_; rotate_left; (focus intro w'; go_simp; with_reducible rfl); rotate_left; (focus simp only [pt, i64_w, i32_w]; rfl)
          refine done_ (done_of HT_.out (by kernel_rfl)) ?_
          have hcz47_0 : w46.cell? ⟨gb767, 0, none⟩ = some (.slice A0_0 l0_0.length c0_0) := (blk_cell BK767.out 0).trans rfl
          have hcz47_1 : w46.cell? ⟨gb767, 1, none⟩ = some (.slice A0_1 l0_1.length c0_1) := (blk_cell BK767.out 1).trans rfl
          have hfz47_0 := blk_frozen BK767.out 0
          have hfz47_1 := blk_frozen BK767.out 1
          try go_wp2_with (first | ((with_reducible refine gate_callee (f := 41) rfl ?_); refine goesL_ (some 47) rfl rfl Try.func41 (by kernel_rfl) rfl #[.agg #[.slice A0_0 l0_0.length c0_0, .slice A0_1 l0_1.length c0_1]] rfl gA ?_; (with_reducible refine (laws_toBase.calls k _ _ l0_0 _ _ l0_1 t783 t786 _ ?side1 ?side2 ?side3 ?side4 A30.out).mono ?_); (case side1 => exact cB HR0_0); (case side2 => exact HC0_0.out); (case side3 => exact cB HR0_1); (case side4 => exact HC0_1.out); rintro e w48 ⟨v784, v787, rfl, ho0, ho1, hb⟩; refine ⟨_, rfl, ?_⟩; have n0_ := Aside0.mk (Kd.S_elder' (pS HO773) (Kd.S_base ho0) hb); have n1_ := Aside0.mk (Kd.R_elder' (pR HO776) (Kd.R_base ho1) hb); have n2_ := Aside0.mk (Kd.R_below (pR HO781) hb); have n3_ := Aside0.mk (Kd.S_lower (Kd.S_new' (Kd.S_new' ho0 (Kd.S_lt (pS HO773))) (Kd.R_lt (pR HO781))) (below_size (w := w) bW)); have n4_ := Aside0.mk (Kd.R_lower (Kd.R_new' ho1 (Kd.R_lt (pR HO776))) (below_size (w := w) bW)); have n5_ := Aside0.mk (kb BK767 hb); have n6_ := Aside0.mk (kb BK768 hb); have n7_ := Aside0.mk (below_step (w := w) bW hb); clear HO773; clear HO776; clear HO781; clear BK767; clear BK768; clear HB; have HO773 := n0_; have HO776 := n1_; have HO781 := n2_; have HO785 := n3_; have HO788 := n4_; have BK767 := n5_; have BK768 := n6_; have HB := n7_; clear n0_ n1_ n2_ n3_ n4_ n5_ n6_ n7_; (try clear hb); (try clear hb2); (try clear hk); (try clear hi); (try clear ho0); (try clear ho1)) | ((with_reducible refine gate_dst (N := 12) rfl ?_); refine bE (N := 12) (cs := #[.slice none 0 0, .slice none 0 0]) (t := 66) ?_; intro gb789 hg w49 hbox hb; have n0_ := Aside0.mk (Kd.S_below (pS HO773) hb); have n1_ := Aside0.mk (Kd.R_below (pR HO776) hb); have n2_ := Aside0.mk (Kd.R_below (pR HO781) hb); have n3_ := Aside0.mk (Kd.S_below (pS HO785) hb); have n4_ := Aside0.mk (Kd.R_below (pR HO788) hb); have n5_ := Aside0.mk (kb BK767 hb); have n6_ := Aside0.mk (kb BK768 hb); have n7_ := Aside0.mk (below_step (w := w) bW hb); have n8_ := Aside0.mk (hbox); have n9_ := Aside0.mk (gS (w := w) hg); have n10_ := n9_; have n11_ := Aside0.mk (nL BK767 hg); have n12_ := Aside0.mk (nG BK767 hg); have n13_ := Aside0.mk (nL BK768 hg); have n14_ := Aside0.mk (nG BK768 hg); clear HO773; clear HO776; clear HO781; clear HO785; clear HO788; clear BK767; clear BK768; clear HB; have HO773 := n0_; have HO776 := n1_; have HO781 := n2_; have HO785 := n3_; have HO788 := n4_; have BK767 := n5_; have BK768 := n6_; have HB := n7_; have BK789 := n8_; have GW789 := n9_; have GE789 := n10_; have NB767_789 := n11_; have NB789_767 := n12_; have NB768_789 := n13_; have NB789_768 := n14_; clear n0_ n1_ n2_ n3_ n4_ n5_ n6_ n7_ n8_ n9_ n10_ n11_ n12_ n13_ n14_; clear hb hbox hg; obtain ⟨Ao50, co50, eo50⟩ := Kd.S_slice HO785.out; subst eo50; have hnb51 := NB789_767.out; have hnc51 := NB767_789.out; have hnb52 := NB789_768.out; have hnc52 := NB768_789.out; obtain ⟨hcz53_0, hcz53_1⟩ := cz2 BK789; obtain ⟨hfz53_0, hfz53_1⟩ := fz2 BK789; obtain ⟨Ao54, co54, eo54⟩ := Kd.R_slice HO788.out; subst eo54))
          have n0_ : Aside0 (Kd.S k118 118 ((w49.setCell ⟨gb789, 0, none⟩ (.slice Ao50 t783.length co50)).setCell ⟨gb789, 1, none⟩ (.slice Ao54 t786.length co54)) w.heap.size (fun k_ => some k_ ≠ (v780 : Value).ownBlock ∧ some k_ ≠ (.slice Ao50 t783.length co50 : Value).ownBlock) (.slice Ao44 t771.length co44) t771) := ⟨by (with_reducible repeat (first | apply Kd.S_alloc | apply Kd.S_drewN | apply Kd.S_drew)); exact Kd.S_mono (Kd.S_far (p := ⟨gb789, 1, none⟩) (Kd.S_far (p := ⟨gb789, 0, none⟩) (Kd.S_types HO773.out BK789.out (by decide)) (fun _ hk => hk.2) (.slice Ao50 t783.length co50)) (fun _ hk => hk.2) (.slice Ao54 t786.length co54)) (fun _ hk => ⟨hk.1.1.2, hk.1.2⟩)⟩
          have n1_ : Aside0 (Kd.R k178 178 ((w49.setCell ⟨gb789, 0, none⟩ (.slice Ao50 t783.length co50)).setCell ⟨gb789, 1, none⟩ (.slice Ao54 t786.length co54)) w.heap.size (fun k_ => some k_ ≠ (.slice Ao54 t786.length co54 : Value).ownBlock) (.slice Ao45 t774.length co45) t774) := ⟨by (with_reducible repeat (first | apply Kd.R_alloc | apply Kd.R_drewN | apply Kd.R_drew)); exact Kd.R_mono (Kd.R_far (p := ⟨gb789, 1, none⟩) (Kd.R_far (p := ⟨gb789, 0, none⟩) (Kd.R_types HO776.out BK789.out (by decide)) (fun _ hk => hk.2) (.slice Ao50 t783.length co50)) (fun _ hk => hk.2) (.slice Ao54 t786.length co54)) (fun _ hk => hk.1.2)⟩
          have n2_ : Aside0 (Kd.R k51 51 ((w49.setCell ⟨gb789, 0, none⟩ (.slice Ao50 t783.length co50)).setCell ⟨gb789, 1, none⟩ (.slice Ao54 t786.length co54)) w.heap.size (fun _ => True) v780 t779) := ⟨by (with_reducible repeat (first | apply Kd.R_alloc | apply Kd.R_drewN | apply Kd.R_drew)); exact Kd.R_mono (Kd.R_far (p := ⟨gb789, 1, none⟩) (Kd.R_far (p := ⟨gb789, 0, none⟩) (Kd.R_types HO781.out BK789.out (by decide)) (fun _ hk => hk.2) (.slice Ao50 t783.length co50)) (fun _ hk => hk.2) (.slice Ao54 t786.length co54)) (fun _ hk => trivial)⟩
          have n3_ : Aside0 (Kd.S k118 118 ((w49.setCell ⟨gb789, 0, none⟩ (.slice Ao50 t783.length co50)).setCell ⟨gb789, 1, none⟩ (.slice Ao54 t786.length co54)) w.heap.size (fun k_ => some k_ ≠ (.slice Ao44 t771.length co44 : Value).ownBlock ∧ some k_ ≠ (v780 : Value).ownBlock) (.slice Ao50 t783.length co50) t783) := ⟨by (with_reducible repeat (first | apply Kd.S_alloc | apply Kd.S_drewN | apply Kd.S_drew)); exact Kd.S_mono (Kd.S_far (p := ⟨gb789, 1, none⟩) (Kd.S_far (p := ⟨gb789, 0, none⟩) (Kd.S_types HO785.out BK789.out (by decide)) (fun _ hk => hk.2) (.slice Ao50 t783.length co50)) (fun _ hk => hk.2) (.slice Ao54 t786.length co54)) (fun _ hk => ⟨hk.1.1.2, hk.1.2⟩)⟩
          have n4_ : Aside0 (Kd.R k178 178 ((w49.setCell ⟨gb789, 0, none⟩ (.slice Ao50 t783.length co50)).setCell ⟨gb789, 1, none⟩ (.slice Ao54 t786.length co54)) w.heap.size (fun k_ => some k_ ≠ (.slice Ao45 t774.length co45 : Value).ownBlock) (.slice Ao54 t786.length co54) t786) := ⟨by (with_reducible repeat (first | apply Kd.R_alloc | apply Kd.R_drewN | apply Kd.R_drew)); exact Kd.R_mono (Kd.R_far (p := ⟨gb789, 1, none⟩) (Kd.R_far (p := ⟨gb789, 0, none⟩) (Kd.R_types HO788.out BK789.out (by decide)) (fun _ hk => hk.2) (.slice Ao50 t783.length co50)) (fun _ hk => hk.2) (.slice Ao54 t786.length co54)) (fun _ hk => hk.1.2)⟩
          have n5_ : Aside0 (((w49.setCell ⟨gb789, 0, none⟩ (.slice Ao50 t783.length co50)).setCell ⟨gb789, 1, none⟩ (.slice Ao54 t786.length co54)).heap[gb767]? = some (.cells #[.slice A0_0 l0_0.length c0_0, .slice A0_1 l0_1.length c0_1] 57 (0, 0))) := ⟨by (with_reducible repeat (first | refine blk_drewN ?_ _ | refine blk_drew ?_ | refine blk_alloc ?_ _)); refine blk_far ?_ NB767_789.out _; (with_reducible repeat (first | refine blk_drewN ?_ _ | refine blk_drew ?_ | refine blk_alloc ?_ _)); refine blk_far ?_ NB767_789.out _; (with_reducible repeat (first | refine blk_drewN ?_ _ | refine blk_drew ?_ | refine blk_alloc ?_ _)); exact BK767.out⟩
          have n6_ : Aside0 (((w49.setCell ⟨gb789, 0, none⟩ (.slice Ao50 t783.length co50)).setCell ⟨gb789, 1, none⟩ (.slice Ao54 t786.length co54)).heap[gb768]? = some (.cells #[.string a1_0, .int .i64 a1_1] 59 (0, 0))) := ⟨by (with_reducible repeat (first | refine blk_drewN ?_ _ | refine blk_drew ?_ | refine blk_alloc ?_ _)); refine blk_far ?_ NB768_789.out _; (with_reducible repeat (first | refine blk_drewN ?_ _ | refine blk_drew ?_ | refine blk_alloc ?_ _)); refine blk_far ?_ NB768_789.out _; (with_reducible repeat (first | refine blk_drewN ?_ _ | refine blk_drew ?_ | refine blk_alloc ?_ _)); exact BK768.out⟩
          have n7_ : Aside0 (((w49.setCell ⟨gb789, 0, none⟩ (.slice Ao50 t783.length co50)).setCell ⟨gb789, 1, none⟩ (.slice Ao54 t786.length co54)).heap[gb789]? = some (.cells #[.slice Ao50 t783.length co50, .slice Ao54 t786.length co54] 66 (0, 0))) := ⟨by (with_reducible repeat (first | refine blk_drewN ?_ _ | refine blk_drew ?_ | refine blk_alloc ?_ _)); refine blk_put (cs := #[.slice Ao50 t783.length co50, .slice none 0 0]) ?_ 1 _ rfl; (with_reducible repeat (first | refine blk_drewN ?_ _ | refine blk_drew ?_ | refine blk_alloc ?_ _)); refine blk_put (cs := #[.slice none 0 0, .slice none 0 0]) ?_ 0 _ rfl; (with_reducible repeat (first | refine blk_drewN ?_ _ | refine blk_drew ?_ | refine blk_alloc ?_ _)); exact BK789.out⟩
          have n8_ : Aside0 (Below w.heap.size w ((w49.setCell ⟨gb789, 0, none⟩ (.slice Ao50 t783.length co50)).setCell ⟨gb789, 1, none⟩ (.slice Ao54 t786.length co54))) := ⟨bW⟩
          (try clear HO773)
          (try clear HO776)
          (try clear HO781)
          (try clear HO785)
          (try clear HO788)
          (try clear BK767)
          (try clear BK768)
          (try clear BK789)
          (try clear HB)
          generalize ((w49.setCell ⟨gb789, 0, none⟩ (.slice Ao50 t783.length co50)).setCell ⟨gb789, 1, none⟩ (.slice Ao54 t786.length co54)) = w55 at n0_ n1_ n2_ n3_ n4_ n5_ n6_ n7_ n8_ ⊢
          have HO773 := n0_
          have HO776 := n1_
          have HO781 := n2_
          have HO785 := n3_
          have HO788 := n4_
          have BK767 := n5_
          have BK768 := n6_
          have BK789 := n7_
          have HB := n8_
          clear n0_ n1_ n2_ n3_ n4_ n5_ n6_ n7_ n8_
          have n0_ := Aside0.mk (Kd.S_drew HO773.out)
          have n1_ := Aside0.mk (Kd.R_drew HO776.out)
          have n2_ := Aside0.mk (Kd.R_drew HO781.out)
          have n3_ := Aside0.mk (Kd.S_drew HO785.out)
          have n4_ := Aside0.mk (Kd.R_drew HO788.out)
          have n5_ := Aside0.mk (blk_drew BK767.out)
          have n6_ := Aside0.mk (blk_drew BK768.out)
          have n7_ := Aside0.mk (blk_drew BK789.out)
          have n8_ := Aside0.mk (below_drew1 HB.out)
          clear HO773
          clear HO776
          clear HO781
          clear HO785
          clear HO788
          clear BK767
          clear BK768
          clear BK789
          clear HB
          have HO773 := n0_
          have HO776 := n1_
          have HO781 := n2_
          have HO785 := n3_
          have HO788 := n4_
          have BK767 := n5_
          have BK768 := n6_
          have BK789 := n7_
          have HB := n8_
          clear n0_ n1_ n2_ n3_ n4_ n5_ n6_ n7_ n8_
          refine start_ (n := 11) (S := fun w' => w'.cell? ⟨gb789, 0, none⟩ = some (.slice Ao50 t783.length co50) ∧ w'.cell? ⟨gb789, 1, none⟩ = some (.slice Ao54 t786.length co54) ∧ w'.cell? ⟨gb768, 0, none⟩ = some (.string a1_0) ∧ w'.cell? ⟨gb768, 1, none⟩ = some (.int .i64 a1_1)) (ds := []) #[false, false, false, false, false, false, false, false, false, false, false] (by kernel_rfl) rfl rfl ⟨(blk_cell BK789.out 0).trans rfl, (blk_cell BK789.out 1).trans rfl, (blk_cell BK768.out 0).trans rfl, (blk_cell BK768.out 1).trans rfl⟩ (fun hHeld => ?_); refine with_tabW laws_FnExactScanSnap.tab14 laws_FnExactScanSnap.bits14 (fun HT_ HW_ => ?_)
          generalize w55.drew = w56 at HO773 HO776 HO781 HO785 HO788 BK767 BK768 BK789 HB hHeld ⊢
          refine pure_ (i := 3) (N := some 52) (v := ?_) (a' := ?_) #[false, false, false, true, false, false, false, false, false, false, false] rfl rfl (any_of HT_.out (by kernel_rfl)) (fun _ _ _ h => h) (Or.inl ⟨by rfl, ?_⟩) ?_ ?_; rotate_left; (focus intro w'; go_simp; with_reducible rfl); rotate_left; (focus simp only [pt, i64_w, i32_w]; rfl)
          refine pure_ (i := 4) (N := some 53) (v := ?_) (a' := ?_) #[false, false, false, true, true, false, false, false, false, false, false] rfl rfl (any_of HT_.out (by kernel_rfl)) (fun _ _ _ h => h) (Or.inl ⟨by rfl, ?_⟩) ?_ ?_; rotate_left; (focus intro w'; go_simp; with_reducible rfl); rotate_left; (focus simp only [pt, i64_w, i32_w]; rfl)
          refine take_ (i := 0) (N := some 49) (v := ?_) (a' := ?_) #[true, false, false, true, true, false, false, false, false, false, false] rfl rfl (take_ofW HT_.out HW_.out (by kernel_rfl)) (fun _ _ _ h => h) (Or.inl ⟨by rfl, ?_⟩) hHeld ?_ ?_; rotate_left; (focus rintro w' ⟨s0, s1, s2, s3⟩; go_simp; with_reducible rfl); rotate_left; (focus simp only [pt, i64_w, i32_w]; rfl)
          refine take_ (i := 1) (N := some 50) (v := ?_) (a' := ?_) #[true, true, false, true, true, false, false, false, false, false, false] rfl rfl (take_ofW HT_.out HW_.out (by kernel_rfl)) (fun _ _ _ h => h) (Or.inl ⟨by rfl, ?_⟩) hHeld ?_ ?_; rotate_left; (focus rintro w' ⟨s0, s1, s2, s3⟩; go_simp; with_reducible rfl); rotate_left; (focus simp only [pt, i64_w, i32_w]; rfl)
          refine one_ (i := 2) (N := some 51) #[true, true, true, true, true, false, false, false, false, false, false] rfl rfl (one_of HT_.out (by kernel_rfl)) (by decide) (fun K hK => ?_)
          refine goes_ Try.func42 (by kernel_rfl) rfl #[.agg #[.string a1_0, .int .i64 a1_1]] (by rfl) rfl rfl gA ?_
          with_reducible refine (laws_toSnap.calls a1_0 a1_1 t790 t791 _ A31.out).mono ?_
          rintro e w57 ⟨rfl, hb⟩
          refine ⟨_, rfl, ?_⟩
          have n0_ := Aside0.mk (Kd.S_below (pS HO773) hb)
          have n1_ := Aside0.mk (Kd.R_below (pR HO776) hb)
          have n2_ := Aside0.mk (Kd.R_below (pR HO781) hb)
          have n3_ := Aside0.mk (Kd.S_below (pS HO785) hb)
          have n4_ := Aside0.mk (Kd.R_below (pR HO788) hb)
          have n5_ := Aside0.mk (kb BK767 hb)
          have n6_ := Aside0.mk (kb BK768 hb)
          have n7_ := Aside0.mk (kb BK789 hb)
          have n8_ := Aside0.mk (below_step (w := w) bW hb)
          clear HO773
          clear HO776
          clear HO781
          clear HO785
          clear HO788
          clear BK767
          clear BK768
          clear BK789
          clear HB
          have HO773 := n0_
          have HO776 := n1_
          have HO781 := n2_
          have HO785 := n3_
          have HO788 := n4_
          have BK767 := n5_
          have BK768 := n6_
          have BK789 := n7_
          have HB := n8_
          clear n0_ n1_ n2_ n3_ n4_ n5_ n6_ n7_ n8_
          (try clear hb)
          (try clear hb2)
          (try clear hk)
          (try clear hi)
          refine hK.out _ _ ⟨(blk_cell BK789.out 0).trans rfl, (blk_cell BK789.out 1).trans rfl, (blk_cell BK768.out 0).trans rfl, (blk_cell BK768.out 1).trans rfl⟩ (fun hHeld => ?_)
          clear hK K
          refine norm_ (a' := ?_) ?_ ?_
          rotate_left
          · show Act.put _ (some 51) _ = _
            simp only [Act.put, List.setIfInBounds_toArray, List.set_cons_zero, List.set_cons_succ, i64_w, i32_w]
            rfl
          refine one_ (i := 5) (N := some 54) #[true, true, true, true, true, true, false, false, false, false, false] rfl rfl (one_of HT_.out (by kernel_rfl)) (by decide) (fun K hK => ?_)
          refine goes_ Try.func46 (by kernel_rfl) rfl #[.agg #[.slice Ao50 t783.length co50, .slice Ao54 t786.length co54], .agg #[.string t790, .int .i64 t791], .string a2, .string a3] (by rfl) rfl rfl gA ?_
          with_reducible refine (impl_ScanSnap.calls k _ _ t783 _ _ t786 t790 t791 a2 a3 t792 t795 _ ?side1 ?side2 ?side3 ?side4 A32.out).mono ?_
          (case side1 => repeat (first | exact (Kd.S_reads' HO785.out).2.2 | (with_reducible refine Kd.C_alloc ?_ _) | (with_reducible refine Kd.C_drewN ?_ _) | (with_reducible refine Kd.C_drew ?_)))
          (case side2 => exact (Kd.S_reads' HO785.out).2.1)
          (case side3 => repeat (first | exact (Kd.R_reads' HO788.out).2.2 | (with_reducible refine Kd.C_alloc ?_ _) | (with_reducible refine Kd.C_drewN ?_ _) | (with_reducible refine Kd.C_drew ?_)))
          (case side4 => exact (Kd.R_reads' HO788.out).2.1)
          rintro e w58 ⟨v793, rfl, ho0, hb⟩
          refine ⟨_, rfl, ?_⟩
          have n0_ := Aside0.mk (Kd.S_elder' (pS HO773) (Kd.R_base ho0) hb)
          have n1_ := Aside0.mk (Kd.R_below (pR HO776) hb)
          have n2_ := Aside0.mk (Kd.R_elder' (pR HO781) (Kd.R_base ho0) hb)
          have n3_ := Aside0.mk (Kd.S_elder' (pS HO785) (Kd.R_base ho0) hb)
          have n4_ := Aside0.mk (Kd.R_below (pR HO788) hb)
          have n5_ := Aside0.mk (Kd.R_lower (Kd.R_new' ho0 (Kd.R_lt (pR HO781))) (below_size (w := w) bW))
          have n6_ := Aside0.mk (kb BK767 hb)
          have n7_ := Aside0.mk (kb BK768 hb)
          have n8_ := Aside0.mk (kb BK789 hb)
          have n9_ := Aside0.mk (below_step (w := w) bW hb)
          clear HO773
          clear HO776
          clear HO781
          clear HO785
          clear HO788
          clear BK767
          clear BK768
          clear BK789
          clear HB
          have HO773 := n0_
          have HO776 := n1_
          have HO781 := n2_
          have HO785 := n3_
          have HO788 := n4_
          have HO794 := n5_
          have BK767 := n6_
          have BK768 := n7_
          have BK789 := n8_
          have HB := n9_
          clear n0_ n1_ n2_ n3_ n4_ n5_ n6_ n7_ n8_ n9_
          (try clear hb)
          (try clear hb2)
          (try clear hk)
          (try clear hi)
          (try clear ho0)
          refine hK.out _ _ ⟨(blk_cell BK789.out 0).trans rfl, (blk_cell BK789.out 1).trans rfl, (blk_cell BK768.out 0).trans rfl, (blk_cell BK768.out 1).trans rfl⟩ (fun hHeld => ?_)
          clear hK K
          refine norm_ (a' := ?_) ?_ ?_
          rotate_left
          · show Act.put _ (some 54) _ = _
            simp only [Act.put, List.setIfInBounds_toArray, List.set_cons_zero, List.set_cons_succ, i64_w, i32_w]
            rfl
          refine pure_ (i := 6) (N := some 48) (v := ?_) (a' := ?_) #[true, true, true, true, true, true, true, false, false, false, false] rfl rfl (any_of HT_.out (by kernel_rfl)) (fun _ _ _ h => h) (Or.inl ⟨by rfl, ?_⟩) ?_ ?_; rotate_left; (focus intro w'; go_simp; with_reducible rfl); rotate_left; (focus simp only [pt, i64_w, i32_w]; rfl)
          refine pure_ (i := 7) (N := some 55) (v := ?_) (a' := ?_) #[true, true, true, true, true, true, true, true, false, false, false] rfl rfl (any_of HT_.out (by kernel_rfl)) (fun _ _ _ h => h) (Or.inl ⟨by rfl, ?_⟩) ?_ ?_; rotate_left; (focus intro w'; go_simp; with_reducible rfl); rotate_left; (focus simp only [pt, i64_w, i32_w]; rfl)
          refine pure_ (i := 8) (N := some 56) (v := ?_) (a' := ?_) #[true, true, true, true, true, true, true, true, true, false, false] rfl rfl (any_of HT_.out (by kernel_rfl)) (fun _ _ _ h => h) (Or.inl ⟨by rfl, ?_⟩) ?_ ?_; rotate_left; (focus intro w'; go_simp; with_reducible rfl); rotate_left; (focus simp only [pt, i64_w, i32_w]; rfl)
          refine pure_ (i := 9) (N := some 13) (v := ?_) (a' := ?_) #[true, true, true, true, true, true, true, true, true, true, false] rfl rfl (any_of HT_.out (by kernel_rfl)) (fun _ _ _ h => h) (Or.inl ⟨by rfl, ?_⟩) ?_ ?_; rotate_left; (focus intro w'; go_simp; with_reducible rfl); rotate_left; (focus simp only [pt, i64_w, i32_w]; rfl)
          refine pure_ (i := 10) (N := some 14) (v := ?_) (a' := ?_) #[true, true, true, true, true, true, true, true, true, true, true] rfl rfl (any_of HT_.out (by kernel_rfl)) (fun _ _ _ h => h) (Or.inl ⟨by rfl, ?_⟩) ?_ ?_; rotate_left; (focus intro w'; go_simp; with_reducible rfl); rotate_left; (focus simp only [pt, i64_w, i32_w]; rfl)
          refine done_ (done_of HT_.out (by kernel_rfl)) ?_
          go_upto_region 15 with (fail)
          go_cut [65] (fun v65 wc => ∃ (kq : Nat) (x65_32 : Bool), v65 = .bool x65_32 ∧ Aside0 (laws_FnExactScanSnap.j0 kq a2 a3 t779 t782 t792 t795 x65_32 l0_0 l0_1 a1_0 a1_1 t783 t786 = some true) ∧ Aside0 (kq ≤ k) ∧ Aside0 (Kd.R k51 51 wc w.heap.size (fun k_ => some k_ ≠ (v793 : Value).ownBlock) v780 t779) ∧ Aside0 (Kd.R k51 51 wc w.heap.size (fun k_ => some k_ ≠ (v780 : Value).ownBlock) v793 t792) ∧ Aside0 (Kd.S k118 118 wc w.heap.size (fun k_ => some k_ ≠ (v780 : Value).ownBlock ∧ some k_ ≠ (v793 : Value).ownBlock) (.slice Ao50 t783.length co50) t783) ∧ Aside0 (Kd.R k178 178 wc w.heap.size (fun _ => True) (.slice Ao54 t786.length co54) t786) ∧ Aside0 (wc.heap[gb767]? = some (.cells #[(.slice A0_0 l0_0.length c0_0), (.slice A0_1 l0_1.length c0_1)] 57 (0, 0))) ∧ Aside0 (wc.heap[gb768]? = some (.cells #[.string a1_0, .int .i64 a1_1] 59 (0, 0))) ∧ Aside0 (wc.heap[gb789]? = some (.cells #[(.slice Ao50 t783.length co50), (.slice Ao54 t786.length co54)] 66 (0, 0))) ∧ Aside0 (Below w.heap.size w wc))
          case first =>
            have H := HC33.out
            clear HC33
            replace H := Option.bind_eq_some_iff.mp H
            obtain ⟨t796, A590, H⟩ := H
            replace H : (if t796 = true then (laws_FnExactScanSnap.j0 k a2 a3 t779 t782 t792 t795 (t795 != t782) l0_0 l0_1 a1_0 a1_1 t783 t786) else (laws_FnExactScanSnap.j0 k a2 a3 t779 t782 t792 t795 true l0_0 l0_1 a1_0 a1_1 t783 t786)) = some true := H
            have A59 := Aside0.mk A590
            clear A590
            by_cases c60 : t796 = true
            · subst c60
              have H1 : (laws_FnExactScanSnap.j0 k a2 a3 t779 t782 t792 t795 (t795 != t782) l0_0 l0_1 a1_0 a1_1 t783 t786) = some true := by rw [if_pos rfl] at H; exact H
              clear H
              have H := H1
              clear H1
              have H' := Aside0.mk H
              clear H
              obtain ⟨Ao61, co61, eo61⟩ := Kd.R_slice HO794.out
              subst eo61
              obtain ⟨Ao62, co62, eo62⟩ := Kd.R_slice HO781.out
              subst eo62
              go_wp2_with (first | ((with_reducible refine gate_callee (f := 19) rfl ?_); refine goesL_ (some 59) rfl rfl Try.func19 (by kernel_rfl) rfl #[.slice Ao61 t792.length co61, .slice Ao62 t779.length co62] rfl gA ?_; (with_reducible refine (laws_eqEntryS.calls k _ _ t792 _ _ t779 true _ ?side1 ?side2 ?side3 ?side4 A59.out).mono ?_); (case side1 => repeat (first | exact (Kd.R_reads' HO794.out).2.2 | (with_reducible refine Kd.C_alloc ?_ _) | (with_reducible refine Kd.C_drewN ?_ _) | (with_reducible refine Kd.C_drew ?_))); (case side2 => exact (Kd.R_reads' HO794.out).2.1); (case side3 => repeat (first | exact (Kd.R_reads' HO781.out).2.2 | (with_reducible refine Kd.C_alloc ?_ _) | (with_reducible refine Kd.C_drewN ?_ _) | (with_reducible refine Kd.C_drew ?_))); (case side4 => exact (Kd.R_reads' HO781.out).2.1); rintro e w63 ⟨rfl, hb⟩; refine ⟨_, rfl, ?_⟩; have n0_ := Aside0.mk (Kd.S_below (pS HO773) hb); have n1_ := Aside0.mk (Kd.R_below (pR HO776) hb); have n2_ := Aside0.mk (Kd.R_below (pR HO781) hb); have n3_ := Aside0.mk (Kd.S_below (pS HO785) hb); have n4_ := Aside0.mk (Kd.R_below (pR HO788) hb); have n5_ := Aside0.mk (Kd.R_below (pR HO794) hb); have n6_ := Aside0.mk (kb BK767 hb); have n7_ := Aside0.mk (kb BK768 hb); have n8_ := Aside0.mk (kb BK789 hb); have n9_ := Aside0.mk (below_step (w := w) bW hb); clear HO773; clear HO776; clear HO781; clear HO785; clear HO788; clear HO794; clear BK767; clear BK768; clear BK789; clear HB; have HO773 := n0_; have HO776 := n1_; have HO781 := n2_; have HO785 := n3_; have HO788 := n4_; have HO794 := n5_; have BK767 := n6_; have BK768 := n7_; have BK789 := n8_; have HB := n9_; clear n0_ n1_ n2_ n3_ n4_ n5_ n6_ n7_ n8_ n9_; (try clear hb); (try clear hb2); (try clear hk); (try clear hi)))
              go_meet
              case rel => exact ⟨_, ((t795 != t782)), vE, H', ⟨by first | omega | exact Nat.le_refl _⟩, ⟨by (with_reducible repeat (first | apply Kd.R_alloc | apply Kd.R_drewN | apply Kd.R_drew)); exact Kd.R_mono HO781.out (fun _ hk => hk.2)⟩, ⟨by (with_reducible repeat (first | apply Kd.R_alloc | apply Kd.R_drewN | apply Kd.R_drew)); exact Kd.R_mono HO794.out (fun _ hk => hk.2)⟩, ⟨by (with_reducible repeat (first | apply Kd.S_alloc | apply Kd.S_drewN | apply Kd.S_drew)); exact Kd.S_mono HO785.out (fun _ hk => ⟨hk.1.2, hk.2⟩)⟩, ⟨by (with_reducible repeat (first | apply Kd.R_alloc | apply Kd.R_drewN | apply Kd.R_drew)); exact Kd.R_mono HO788.out (fun _ hk => trivial)⟩, ⟨by (with_reducible repeat (first | refine blk_drewN ?_ _ | refine blk_drew ?_ | refine blk_alloc ?_ _)); exact BK767.out⟩, ⟨by (with_reducible repeat (first | refine blk_drewN ?_ _ | refine blk_drew ?_ | refine blk_alloc ?_ _)); exact BK768.out⟩, ⟨by (with_reducible repeat (first | refine blk_drewN ?_ _ | refine blk_drew ?_ | refine blk_alloc ?_ _)); exact BK789.out⟩, ⟨bW⟩⟩
            · replace c60 := Bool.eq_false_iff.mpr c60
              subst c60
              have H1 : (laws_FnExactScanSnap.j0 k a2 a3 t779 t782 t792 t795 true l0_0 l0_1 a1_0 a1_1 t783 t786) = some true := by rw [if_neg (show ¬ (false = true) by decide)] at H; exact H
              clear H
              have H := H1
              clear H1
              have H' := Aside0.mk H
              clear H
              obtain ⟨Ao64, co64, eo64⟩ := Kd.R_slice HO794.out
              subst eo64
              obtain ⟨Ao65, co65, eo65⟩ := Kd.R_slice HO781.out
              subst eo65
              go_wp2_with (first | ((with_reducible refine gate_callee (f := 19) rfl ?_); refine goesL_ (some 59) rfl rfl Try.func19 (by kernel_rfl) rfl #[.slice Ao64 t792.length co64, .slice Ao65 t779.length co65] rfl gA ?_; (with_reducible refine (laws_eqEntryS.calls k _ _ t792 _ _ t779 false _ ?side1 ?side2 ?side3 ?side4 A59.out).mono ?_); (case side1 => repeat (first | exact (Kd.R_reads' HO794.out).2.2 | (with_reducible refine Kd.C_alloc ?_ _) | (with_reducible refine Kd.C_drewN ?_ _) | (with_reducible refine Kd.C_drew ?_))); (case side2 => exact (Kd.R_reads' HO794.out).2.1); (case side3 => repeat (first | exact (Kd.R_reads' HO781.out).2.2 | (with_reducible refine Kd.C_alloc ?_ _) | (with_reducible refine Kd.C_drewN ?_ _) | (with_reducible refine Kd.C_drew ?_))); (case side4 => exact (Kd.R_reads' HO781.out).2.1); rintro e w66 ⟨rfl, hb⟩; refine ⟨_, rfl, ?_⟩; have n0_ := Aside0.mk (Kd.S_below (pS HO773) hb); have n1_ := Aside0.mk (Kd.R_below (pR HO776) hb); have n2_ := Aside0.mk (Kd.R_below (pR HO781) hb); have n3_ := Aside0.mk (Kd.S_below (pS HO785) hb); have n4_ := Aside0.mk (Kd.R_below (pR HO788) hb); have n5_ := Aside0.mk (Kd.R_below (pR HO794) hb); have n6_ := Aside0.mk (kb BK767 hb); have n7_ := Aside0.mk (kb BK768 hb); have n8_ := Aside0.mk (kb BK789 hb); have n9_ := Aside0.mk (below_step (w := w) bW hb); clear HO773; clear HO776; clear HO781; clear HO785; clear HO788; clear HO794; clear BK767; clear BK768; clear BK789; clear HB; have HO773 := n0_; have HO776 := n1_; have HO781 := n2_; have HO785 := n3_; have HO788 := n4_; have HO794 := n5_; have BK767 := n6_; have BK768 := n7_; have BK789 := n8_; have HB := n9_; clear n0_ n1_ n2_ n3_ n4_ n5_ n6_ n7_ n8_ n9_; (try clear hb); (try clear hb2); (try clear hk); (try clear hi)))
              go_meet
              case rel => exact ⟨_, (true), vE, H', ⟨by first | omega | exact Nat.le_refl _⟩, ⟨by (with_reducible repeat (first | apply Kd.R_alloc | apply Kd.R_drewN | apply Kd.R_drew)); exact Kd.R_mono HO781.out (fun _ hk => hk.2)⟩, ⟨by (with_reducible repeat (first | apply Kd.R_alloc | apply Kd.R_drewN | apply Kd.R_drew)); exact Kd.R_mono HO794.out (fun _ hk => hk.2)⟩, ⟨by (with_reducible repeat (first | apply Kd.S_alloc | apply Kd.S_drewN | apply Kd.S_drew)); exact Kd.S_mono HO785.out (fun _ hk => ⟨hk.1.2, hk.2⟩)⟩, ⟨by (with_reducible repeat (first | apply Kd.R_alloc | apply Kd.R_drewN | apply Kd.R_drew)); exact Kd.R_mono HO788.out (fun _ hk => trivial)⟩, ⟨by (with_reducible repeat (first | refine blk_drewN ?_ _ | refine blk_drew ?_ | refine blk_alloc ?_ _)); exact BK767.out⟩, ⟨by (with_reducible repeat (first | refine blk_drewN ?_ _ | refine blk_drew ?_ | refine blk_alloc ?_ _)); exact BK768.out⟩, ⟨by (with_reducible repeat (first | refine blk_drewN ?_ _ | refine blk_drew ?_ | refine blk_alloc ?_ _)); exact BK789.out⟩, ⟨bW⟩⟩
          case rest =>
            clear HC33
            try clear c1
            try clear c2
            try clear p2
            try clear c3
            try clear c4
            try clear c5
            try clear c5b0
            try clear c5b1
            try clear c6
            try clear c8
            try clear c8b0
            try clear c8b1
            try clear c9
            try clear c12
            try clear c12b0
            try clear c15
            try clear c19
            try clear c19b0
            try clear c22
            try clear c36
            try clear c38
            try clear c39
            try clear c41
            try clear c42
            try clear c45
            try clear c46
            try clear c51
            try clear c52
            try clear c60
            try clear hcz16_0
            try clear hcz16_1
            try clear hcz23_0
            try clear hcz23_1
            try clear hcz25_0
            try clear hcz25_1
            try clear hcz37_0
            try clear hcz37_1
            try clear hcz39_0
            try clear hcz39_1
            try clear hcz47_0
            try clear hcz47_1
            try clear hcz53_0
            try clear hcz53_1
            try clear hfz16_0
            try clear hfz16_1
            try clear hfz23_0
            try clear hfz23_1
            try clear hfz25_0
            try clear hfz25_1
            try clear hfz37_0
            try clear hfz37_1
            try clear hfz39_0
            try clear hfz39_1
            try clear hfz47_0
            try clear hfz47_1
            try clear hfz53_0
            try clear hfz53_1
            obtain ⟨kq, x65_32, rfl, HA, HJ32, HO_10, HO_13, HO_790000, HO_790001, BK767, BK768, BK789, HB⟩ := hcut
            cases kq with
            | zero => exact absurd HA.out (by simp [laws_FnExactScanSnap.j0])
            | succ kj32 =>
              have H := HA.out
              clear HA
              simp only [laws_FnExactScanSnap.j0] at H
              by_cases c67 : x65_32 = true
              · subst c67
                have H1 : (some false) = some true := by rw [if_pos rfl] at H; exact H
                exact absurd H1 (by simp)
              · replace c67 := Bool.eq_false_iff.mpr c67
                subst c67
                have H1 : ((laws_toBase.f kj32 l0_0 l0_1).bind fun bt797 => ((laws_eqBase.f kj32 t783 t786 bt797.1 bt797.2).bind fun t803 => (if t803 = true then ((laws_markBase.f kj32 t783 t786 1).bind fun t804 => (if t804 < 0 then (laws_FnExactScanSnap.j1 kj32 a2 a3 t779 t782 t792 true l0_0 l0_1 a1_0 a1_1) else ((laws_eqEntryS.f kj32 t792 t779).bind fun t805 => (if t805 = true then (laws_FnExactScanSnap.j1 kj32 a2 a3 t779 t782 t792 (t795 != t782) l0_0 l0_1 a1_0 a1_1) else (laws_FnExactScanSnap.j1 kj32 a2 a3 t779 t782 t792 true l0_0 l0_1 a1_0 a1_1))))) else (some false)))) = some true := by rw [if_neg (show ¬ (false = true) by decide)] at H; exact H
                clear H
                have H := H1
                clear H1
                replace H := Option.bind_eq_some_iff.mp H
                obtain ⟨⟨t797, t800⟩, A680, H⟩ := H
                replace H : ((laws_eqBase.f kj32 t783 t786 t797 t800).bind fun t803 => (if t803 = true then ((laws_markBase.f kj32 t783 t786 1).bind fun t804 => (if t804 < 0 then (laws_FnExactScanSnap.j1 kj32 a2 a3 t779 t782 t792 true l0_0 l0_1 a1_0 a1_1) else ((laws_eqEntryS.f kj32 t792 t779).bind fun t805 => (if t805 = true then (laws_FnExactScanSnap.j1 kj32 a2 a3 t779 t782 t792 (t795 != t782) l0_0 l0_1 a1_0 a1_1) else (laws_FnExactScanSnap.j1 kj32 a2 a3 t779 t782 t792 true l0_0 l0_1 a1_0 a1_1))))) else (some false))) = some true := H
                have A68 := Aside0.mk A680
                clear A680
                replace H := Option.bind_eq_some_iff.mp H
                obtain ⟨t803, A690, H⟩ := H
                replace H : (if t803 = true then ((laws_markBase.f kj32 t783 t786 1).bind fun t804 => (if t804 < 0 then (laws_FnExactScanSnap.j1 kj32 a2 a3 t779 t782 t792 true l0_0 l0_1 a1_0 a1_1) else ((laws_eqEntryS.f kj32 t792 t779).bind fun t805 => (if t805 = true then (laws_FnExactScanSnap.j1 kj32 a2 a3 t779 t782 t792 (t795 != t782) l0_0 l0_1 a1_0 a1_1) else (laws_FnExactScanSnap.j1 kj32 a2 a3 t779 t782 t792 true l0_0 l0_1 a1_0 a1_1))))) else (some false)) = some true := H
                have A69 := Aside0.mk A690
                clear A690
                by_cases c70 : t803 = true
                · subst c70
                  have H1 : ((laws_markBase.f kj32 t783 t786 1).bind fun t804 => (if t804 < 0 then (laws_FnExactScanSnap.j1 kj32 a2 a3 t779 t782 t792 true l0_0 l0_1 a1_0 a1_1) else ((laws_eqEntryS.f kj32 t792 t779).bind fun t805 => (if t805 = true then (laws_FnExactScanSnap.j1 kj32 a2 a3 t779 t782 t792 (t795 != t782) l0_0 l0_1 a1_0 a1_1) else (laws_FnExactScanSnap.j1 kj32 a2 a3 t779 t782 t792 true l0_0 l0_1 a1_0 a1_1))))) = some true := by rw [if_pos rfl] at H; exact H
                  clear H
                  have H := H1
                  clear H1
                  replace H := Option.bind_eq_some_iff.mp H
                  obtain ⟨t804, A710, H⟩ := H
                  replace H : (if t804 < 0 then (laws_FnExactScanSnap.j1 kj32 a2 a3 t779 t782 t792 true l0_0 l0_1 a1_0 a1_1) else ((laws_eqEntryS.f kj32 t792 t779).bind fun t805 => (if t805 = true then (laws_FnExactScanSnap.j1 kj32 a2 a3 t779 t782 t792 (t795 != t782) l0_0 l0_1 a1_0 a1_1) else (laws_FnExactScanSnap.j1 kj32 a2 a3 t779 t782 t792 true l0_0 l0_1 a1_0 a1_1)))) = some true := H
                  have A71 := Aside0.mk A710
                  clear A710
                  have HC72 := Aside0.mk H
                  clear H
                  try go_wp2
                  have n0_ := Aside0.mk (Kd.R_drew HO_10.out)
                  have n1_ := Aside0.mk (Kd.R_drew HO_13.out)
                  have n2_ := Aside0.mk (Kd.S_drew HO_790000.out)
                  have n3_ := Aside0.mk (Kd.R_drew HO_790001.out)
                  have n4_ := Aside0.mk (blk_drew BK767.out)
                  have n5_ := Aside0.mk (blk_drew BK768.out)
                  have n6_ := Aside0.mk (blk_drew BK789.out)
                  have n7_ := Aside0.mk (below_drew1 HB.out)
                  clear HO_10
                  clear HO_13
                  clear HO_790000
                  clear HO_790001
                  clear BK767
                  clear BK768
                  clear BK789
                  clear HB
                  have HO_10 := n0_
                  have HO_13 := n1_
                  have HO_790000 := n2_
                  have HO_790001 := n3_
                  have BK767 := n4_
                  have BK768 := n5_
                  have BK789 := n6_
                  have HB := n7_
                  clear n0_ n1_ n2_ n3_ n4_ n5_ n6_ n7_
                  refine start_ (n := 5) (S := fun w' => w'.cell? ⟨gb789, 0, none⟩ = some (.slice Ao50 t783.length co50) ∧ w'.cell? ⟨gb789, 1, none⟩ = some (.slice Ao54 t786.length co54) ∧ w'.cell? ⟨gb767, 0, none⟩ = some (.slice A0_0 l0_0.length c0_0) ∧ w'.cell? ⟨gb767, 1, none⟩ = some (.slice A0_1 l0_1.length c0_1)) (ds := []) #[false, false, false, false, false] (by kernel_rfl) rfl rfl ⟨(blk_cell BK789.out 0).trans rfl, (blk_cell BK789.out 1).trans rfl, (blk_cell BK767.out 0).trans rfl, (blk_cell BK767.out 1).trans rfl⟩ (fun hHeld => ?_)
                  generalize wc.drew = w73 at HO_10 HO_13 HO_790000 HO_790001 BK767 BK768 BK789 HB hHeld ⊢
                  refine take_ (i := 0) (N := some 66) (v := ?_) (a' := ?_) #[true, false, false, false, false] rfl rfl (by kernel_rfl) (fun _ _ _ h => h) (Or.inl ⟨by rfl, ?_⟩) hHeld ?_ ?_; rotate_left; (focus rintro w' ⟨s0, s1, s2, s3⟩; go_simp; with_reducible rfl); rotate_left; (focus simp only [pt, i64_w, i32_w]; rfl)
                  refine take_ (i := 1) (N := some 67) (v := ?_) (a' := ?_) #[true, true, false, false, false] rfl rfl (by kernel_rfl) (fun _ _ _ h => h) (Or.inl ⟨by rfl, ?_⟩) hHeld ?_ ?_; rotate_left; (focus rintro w' ⟨s0, s1, s2, s3⟩; go_simp; with_reducible rfl); rotate_left; (focus simp only [pt, i64_w, i32_w]; rfl)
                  refine one_ (i := 2) (N := some 68) #[true, true, true, false, false] rfl rfl (by kernel_rfl) (by decide) (fun K hK => ?_)
                  refine goes_ Try.func41 (by kernel_rfl) rfl #[.agg #[.slice A0_0 l0_0.length c0_0, .slice A0_1 l0_1.length c0_1]] (by rfl) rfl rfl gA ?_
                  with_reducible refine (laws_toBase.calls kj32 _ _ l0_0 _ _ l0_1 t797 t800 _ ?side1 ?side2 ?side3 ?side4 A68.out).mono ?_
                  (case side1 => exact cB HR0_0)
                  (case side2 => exact HC0_0.out)
                  (case side3 => exact cB HR0_1)
                  (case side4 => exact HC0_1.out)
                  rintro e w74 ⟨v798, v801, rfl, ho0, ho1, hb⟩
                  refine ⟨_, rfl, ?_⟩
                  have n0_ := Aside0.mk (Kd.R_below (pR HO_10) hb)
                  have n1_ := Aside0.mk (Kd.R_below (pR HO_13) hb)
                  have n2_ := Aside0.mk (Kd.S_elder' (pS HO_790000) (Kd.S_base ho0) hb)
                  have n3_ := Aside0.mk (Kd.R_elder' (pR HO_790001) (Kd.R_base ho1) hb)
                  have n4_ := Aside0.mk (Kd.S_lower (Kd.S_new' (Kd.S_new' (Kd.S_new' ho0 (Kd.R_lt (pR HO_10))) (Kd.R_lt (pR HO_13))) (Kd.S_lt (pS HO_790000))) (below_size (w := w) bW))
                  have n5_ := Aside0.mk (Kd.R_lower (Kd.R_new' ho1 (Kd.R_lt (pR HO_790001))) (below_size (w := w) bW))
                  have n6_ := Aside0.mk (kb BK767 hb)
                  have n7_ := Aside0.mk (kb BK768 hb)
                  have n8_ := Aside0.mk (kb BK789 hb)
                  have n9_ := Aside0.mk (below_step (w := w) bW hb)
                  clear HO_10
                  clear HO_13
                  clear HO_790000
                  clear HO_790001
                  clear BK767
                  clear BK768
                  clear BK789
                  clear HB
                  have HO_10 := n0_
                  have HO_13 := n1_
                  have HO_790000 := n2_
                  have HO_790001 := n3_
                  have HO799 := n4_
                  have HO802 := n5_
                  have BK767 := n6_
                  have BK768 := n7_
                  have BK789 := n8_
                  have HB := n9_
                  clear n0_ n1_ n2_ n3_ n4_ n5_ n6_ n7_ n8_ n9_
                  (try clear hb)
                  (try clear hb2)
                  (try clear hk)
                  (try clear hi)
                  (try clear ho0)
                  (try clear ho1)
                  obtain ⟨Ao75, co75, eo75⟩ := Kd.S_slice HO799.out
                  (first | subst eo75 | (injection eo75 with f1_ f2_ f3_; have f4_ := f1_.symm; have f5_ := f3_.symm; clear f1_ f2_ f3_; subst f4_; subst f5_))
                  obtain ⟨Ao76, co76, eo76⟩ := Kd.R_slice HO802.out
                  (first | subst eo76 | (injection eo76 with f1_ f2_ f3_; have f4_ := f1_.symm; have f5_ := f3_.symm; clear f1_ f2_ f3_; subst f4_; subst f5_))
                  refine hK.out _ _ ⟨(blk_cell BK789.out 0).trans rfl, (blk_cell BK789.out 1).trans rfl, (blk_cell BK767.out 0).trans rfl, (blk_cell BK767.out 1).trans rfl⟩ (fun hHeld => ?_)
                  clear hK K
                  refine norm_ (a' := ?_) ?_ ?_
                  rotate_left
                  · show Act.put _ (some 68) _ = _
                    simp only [Act.put, List.setIfInBounds_toArray, List.set_cons_zero, List.set_cons_succ, i64_w, i32_w]
                    rfl
                  refine one_ (i := 3) (N := some 69) #[true, true, true, true, false] rfl rfl (by kernel_rfl) (by decide) (fun K hK => ?_)
                  refine goes_ Try.func44 (by kernel_rfl) rfl #[.agg #[.slice Ao50 t783.length co50, .slice Ao54 t786.length co54], .agg #[.slice Ao75 t797.length co75, .slice Ao76 t800.length co76]] (by rfl) rfl rfl gA ?_
                  with_reducible refine (laws_eqBase.calls kj32 _ _ t783 _ _ t786 _ _ t797 _ _ t800 true _ ?side1 ?side2 ?side3 ?side4 ?side5 ?side6 ?side7 ?side8 A69.out).mono ?_
                  (case side1 => repeat (first | exact (Kd.S_reads' HO_790000.out).2.2 | (with_reducible refine Kd.C_alloc ?_ _) | (with_reducible refine Kd.C_drewN ?_ _) | (with_reducible refine Kd.C_drew ?_)))
                  (case side2 => exact (Kd.S_reads' HO_790000.out).2.1)
                  (case side3 => repeat (first | exact (Kd.R_reads' HO_790001.out).2.2 | (with_reducible refine Kd.C_alloc ?_ _) | (with_reducible refine Kd.C_drewN ?_ _) | (with_reducible refine Kd.C_drew ?_)))
                  (case side4 => exact (Kd.R_reads' HO_790001.out).2.1)
                  (case side5 => repeat (first | exact (Kd.S_reads' HO799.out).2.2 | (with_reducible refine Kd.C_alloc ?_ _) | (with_reducible refine Kd.C_drewN ?_ _) | (with_reducible refine Kd.C_drew ?_)))
                  (case side6 => exact (Kd.S_reads' HO799.out).2.1)
                  (case side7 => repeat (first | exact (Kd.R_reads' HO802.out).2.2 | (with_reducible refine Kd.C_alloc ?_ _) | (with_reducible refine Kd.C_drewN ?_ _) | (with_reducible refine Kd.C_drew ?_)))
                  (case side8 => exact (Kd.R_reads' HO802.out).2.1)
                  rintro e w77 ⟨rfl, hb⟩
                  refine ⟨_, rfl, ?_⟩
                  have n0_ := Aside0.mk (Kd.R_below (pR HO_10) hb)
                  have n1_ := Aside0.mk (Kd.R_below (pR HO_13) hb)
                  have n2_ := Aside0.mk (Kd.S_below (pS HO_790000) hb)
                  have n3_ := Aside0.mk (Kd.R_below (pR HO_790001) hb)
                  have n4_ := Aside0.mk (Kd.S_below (pS HO799) hb)
                  have n5_ := Aside0.mk (Kd.R_below (pR HO802) hb)
                  have n6_ := Aside0.mk (kb BK767 hb)
                  have n7_ := Aside0.mk (kb BK768 hb)
                  have n8_ := Aside0.mk (kb BK789 hb)
                  have n9_ := Aside0.mk (below_step (w := w) bW hb)
                  clear HO_10
                  clear HO_13
                  clear HO_790000
                  clear HO_790001
                  clear HO799
                  clear HO802
                  clear BK767
                  clear BK768
                  clear BK789
                  clear HB
                  have HO_10 := n0_
                  have HO_13 := n1_
                  have HO_790000 := n2_
                  have HO_790001 := n3_
                  have HO799 := n4_
                  have HO802 := n5_
                  have BK767 := n6_
                  have BK768 := n7_
                  have BK789 := n8_
                  have HB := n9_
                  clear n0_ n1_ n2_ n3_ n4_ n5_ n6_ n7_ n8_ n9_
                  (try clear hb)
                  (try clear hb2)
                  (try clear hk)
                  (try clear hi)
                  refine hK.out _ _ ⟨(blk_cell BK789.out 0).trans rfl, (blk_cell BK789.out 1).trans rfl, (blk_cell BK767.out 0).trans rfl, (blk_cell BK767.out 1).trans rfl⟩ (fun hHeld => ?_)
                  clear hK K
                  refine norm_ (a' := ?_) ?_ ?_
                  rotate_left
                  · show Act.put _ (some 69) _ = _
                    simp only [Act.put, List.setIfInBounds_toArray, List.set_cons_zero, List.set_cons_succ, i64_w, i32_w]
                    rfl
                  refine pure_ (i := 4) (N := some 70) (v := ?_) (a' := ?_) #[true, true, true, true, true] rfl rfl (by kernel_rfl) (fun _ _ _ h => h) (Or.inl ⟨by rfl, ?_⟩) ?_ ?_; rotate_left; (focus intro w'; go_simp; with_reducible rfl); rotate_left; (focus simp only [pt, i64_w, i32_w]; rfl)
                  refine done_ (by kernel_rfl) ?_
                  have hnb78 := NB789_767.out
                  have hnc78 := NB767_789.out
                  have hnb79 := NB789_768.out
                  have hnc79 := NB768_789.out
                  have hcz80_0 : w77.cell? ⟨gb789, 0, none⟩ = some (.slice Ao50 t783.length co50) := (blk_cell BK789.out 0).trans rfl
                  have hcz80_1 : w77.cell? ⟨gb789, 1, none⟩ = some (.slice Ao54 t786.length co54) := (blk_cell BK789.out 1).trans rfl
                  have hfz80_0 := blk_frozen BK789.out 0
                  have hfz80_1 := blk_frozen BK789.out 1
                  go_upto_region 21 with (first | ((with_reducible refine gate_callee (f := 47) rfl ?_); refine goesL_ (some 73) rfl rfl Try.func47 (by kernel_rfl) rfl #[.agg #[.slice Ao50 t783.length co50, .slice Ao54 t786.length co54], .int .i64 1] rfl gA ?_; (with_reducible refine (laws_markBase.calls kj32 (fun k_ => (((((((some k_ ≠ (v780 : Value).ownBlock ∧ some k_ ≠ (v793 : Value).ownBlock) ∧ some k_ ≠ (.slice Ao75 t797.length co75 : Value).ownBlock) ∧ some k_ ≠ (.slice Ao54 t786.length co54 : Value).ownBlock) ∧ some k_ ≠ (.slice Ao76 t800.length co76 : Value).ownBlock) ∧ k_ ≠ gb767) ∧ k_ ≠ gb768) ∧ k_ ≠ gb789)) (.slice Ao50 t783.length co50) t783 (fun k_ => some k_ = (.slice Ao54 t786.length co54 : Value).ownBlock) (.slice Ao54 t786.length co54) t786 1 t804 w _ ?side1 ?side2 ?side3 A71.out).mono ?_); (case side1 => repeat (first | (with_reducible first | exact HB.out | apply below_alloc | apply pw_below_drewN | apply below_drew1 | refine below_set ?_ GE767.out | refine below_set ?_ GE768.out | refine below_set ?_ GE789.out) | exact HB.out)); (case side2 => exact (Kd.S_types (Kd.S_types (Kd.S_types (Kd.S_apart' (Kd.S_apart' HO_790000.out (Kd.R_typed HO_790001.out) (by decide)) (Kd.R_typed HO802.out) (by decide)) BK767.out (by decide)) BK768.out (by decide)) BK789.out (by decide))); (case side3 => exact Kd.R_tight rfl HO_790001.out); rintro e w81 ⟨rfl, hb, hkp⟩; refine ⟨_, rfl, ?_⟩; have n0_ := Aside0.mk (Kd.R_mono (ok' := fun k_ => some k_ ≠ (v793 : Value).ownBlock) (Kd.R_keptB ((Kd.R_apart' (Kd.R_mono (ok' := fun k_ => some k_ ≠ (v793 : Value).ownBlock ∧ ¬ ((((((((some k_ ≠ (v780 : Value).ownBlock ∧ some k_ ≠ (v793 : Value).ownBlock) ∧ some k_ ≠ (.slice Ao75 t797.length co75 : Value).ownBlock) ∧ some k_ ≠ (.slice Ao54 t786.length co54 : Value).ownBlock) ∧ some k_ ≠ (.slice Ao76 t800.length co76 : Value).ownBlock) ∧ k_ ≠ gb767) ∧ k_ ≠ gb768) ∧ k_ ≠ gb789))) (Kd.R_tight2 rfl HO_10.out) (fun k_ hk => ⟨hk.2, fun hs_ => (hs_.1.1.1.1.1.1.1) hk.1⟩)) (Kd.R_typed HO_790001.out) (by decide))) hkp (fun k_ hk_ hs_ => Or.elim hs_ (fun e_ => (hk_.1.2) e_) (fun e_ => (hk_.2) e_))) (fun k_ hk_ => hk_.1.1.1)); have n1_ := Aside0.mk (Kd.R_mono (ok' := fun k_ => some k_ ≠ (v780 : Value).ownBlock) (Kd.R_keptB ((Kd.R_apart' (Kd.R_mono (ok' := fun k_ => some k_ ≠ (v780 : Value).ownBlock ∧ ¬ ((((((((some k_ ≠ (v780 : Value).ownBlock ∧ some k_ ≠ (v793 : Value).ownBlock) ∧ some k_ ≠ (.slice Ao75 t797.length co75 : Value).ownBlock) ∧ some k_ ≠ (.slice Ao54 t786.length co54 : Value).ownBlock) ∧ some k_ ≠ (.slice Ao76 t800.length co76 : Value).ownBlock) ∧ k_ ≠ gb767) ∧ k_ ≠ gb768) ∧ k_ ≠ gb789))) (Kd.R_tight2 rfl HO_13.out) (fun k_ hk => ⟨hk.2, fun hs_ => (hs_.1.1.1.1.1.1.2) hk.1⟩)) (Kd.R_typed HO_790001.out) (by decide))) hkp (fun k_ hk_ hs_ => Or.elim hs_ (fun e_ => (hk_.1.2) e_) (fun e_ => (hk_.2) e_))) (fun k_ hk_ => hk_.1.1.1)); have n2_ := Aside0.mk (blk_kept (kB BK767) hkp (fun hs_ => Or.elim hs_ (fun e_ => (fun e_ => (e_.1.1.2) rfl) e_) (fun e_ => (fun e_ => (Kd.R_ne HO_790001.out BK767.out (by decide)) e_) e_))); have n3_ := Aside0.mk (blk_kept (kB BK768) hkp (fun hs_ => Or.elim hs_ (fun e_ => (fun e_ => (e_.1.2) rfl) e_) (fun e_ => (fun e_ => (Kd.R_ne HO_790001.out BK768.out (by decide)) e_) e_))); have n4_ := Aside0.mk (blk_kept (kB BK789) hkp (fun hs_ => Or.elim hs_ (fun e_ => (fun e_ => (e_.2) rfl) e_) (fun e_ => (fun e_ => (Kd.R_ne HO_790001.out BK789.out (by decide)) e_) e_))); have n5_ := Aside0.mk (Kd.R_mono (ok' := fun k_ => True) (Kd.R_keptB ((Kd.R_mono (ok' := fun k_ => (True ∧ some k_ ≠ (.slice Ao54 t786.length co54 : Value).ownBlock) ∧ ¬ ((((((((some k_ ≠ (v780 : Value).ownBlock ∧ some k_ ≠ (v793 : Value).ownBlock) ∧ some k_ ≠ (.slice Ao75 t797.length co75 : Value).ownBlock) ∧ some k_ ≠ (.slice Ao54 t786.length co54 : Value).ownBlock) ∧ some k_ ≠ (.slice Ao76 t800.length co76 : Value).ownBlock) ∧ k_ ≠ gb767) ∧ k_ ≠ gb768) ∧ k_ ≠ gb789))) (Kd.R_tight2 rfl HO802.out) (fun k_ hk => ⟨hk.2, fun hs_ => (hs_.1.1.1.2) hk.1⟩))) hkp (fun k_ hk_ hs_ => Or.elim hs_ (fun e_ => (hk_.2) e_) (fun e_ => (hk_.1.2) e_))) (fun k_ hk_ => trivial)); have n6_ := Aside0.mk (hb); clear HO_10; clear HO_13; clear BK767; clear BK768; clear BK789; clear HO802; clear HB; clear HO_790000; clear HO_790001; clear HO799; have HO_10 := n0_; have HO_13 := n1_; have BK767 := n2_; have BK768 := n3_; have BK789 := n4_; have HO802 := n5_; have HB := n6_; clear n0_ n1_ n2_ n3_ n4_ n5_ n6_; (try clear hb); (try clear hkp)))
                  (try simp only [Act.put, List.setIfInBounds_toArray, List.set_cons_zero, List.set_cons_succ])
                  go_cut [86] (fun v86 wc => ∃ (kq : Nat) (x86_71 : Bool), v86 = .bool x86_71 ∧ Aside0 (laws_FnExactScanSnap.j1 kq a2 a3 t779 t782 t792 x86_71 l0_0 l0_1 a1_0 a1_1 = some true) ∧ Aside0 (kq ≤ kj32) ∧ Aside0 (Kd.R k51 51 wc w.heap.size (fun k_ => some k_ ≠ (v793 : Value).ownBlock) v780 t779) ∧ Aside0 (Kd.R k51 51 wc w.heap.size (fun k_ => some k_ ≠ (v780 : Value).ownBlock) v793 t792) ∧ Aside0 (wc.heap[gb767]? = some (.cells #[(.slice A0_0 l0_0.length c0_0), (.slice A0_1 l0_1.length c0_1)] 57 (0, 0))) ∧ Aside0 (wc.heap[gb768]? = some (.cells #[.string a1_0, .int .i64 a1_1] 59 (0, 0))) ∧ Aside0 (Below w.heap.size w wc))
                  case first =>
                    have H := HC72.out
                    clear HC72
                    by_cases c82 : t804 < 0
                    · rw [if_pos c82] at H
                      have c82b0 : decide (t804 < 0) = true := decide_eq_true c82
                      clear c82
                      (first | rw [c82b0] | (simp only [i64_w, i32_w]; rw [c82b0]) | skip)
                      have H' := Aside0.mk H
                      clear H
                      go_wp2
                      go_meet
                      case rel => exact ⟨_, (true), vE, H', ⟨by have := HJ32.out; first | omega | exact Nat.le_refl _⟩, ⟨by (with_reducible repeat (first | apply Kd.R_alloc | apply Kd.R_drewN | apply Kd.R_drew)); exact HO_10.out⟩, ⟨by (with_reducible repeat (first | apply Kd.R_alloc | apply Kd.R_drewN | apply Kd.R_drew)); exact HO_13.out⟩, ⟨by (with_reducible repeat (first | refine blk_drewN ?_ _ | refine blk_drew ?_ | refine blk_alloc ?_ _)); exact BK767.out⟩, ⟨by (with_reducible repeat (first | refine blk_drewN ?_ _ | refine blk_drew ?_ | refine blk_alloc ?_ _)); exact BK768.out⟩, ⟨bW⟩⟩
                    · rw [if_neg c82] at H
                      have c82b0 : decide (t804 < 0) = false := decide_eq_false c82
                      clear c82
                      (first | rw [c82b0] | (simp only [i64_w, i32_w]; rw [c82b0]) | skip)
                      replace H := Option.bind_eq_some_iff.mp H
                      obtain ⟨t805, A830, H⟩ := H
                      replace H : (if t805 = true then (laws_FnExactScanSnap.j1 kj32 a2 a3 t779 t782 t792 (t795 != t782) l0_0 l0_1 a1_0 a1_1) else (laws_FnExactScanSnap.j1 kj32 a2 a3 t779 t782 t792 true l0_0 l0_1 a1_0 a1_1)) = some true := H
                      have A83 := Aside0.mk A830
                      clear A830
                      by_cases c84 : t805 = true
                      · subst c84
                        have H1 : (laws_FnExactScanSnap.j1 kj32 a2 a3 t779 t782 t792 (t795 != t782) l0_0 l0_1 a1_0 a1_1) = some true := by rw [if_pos rfl] at H; exact H
                        clear H
                        have H := H1
                        clear H1
                        have H' := Aside0.mk H
                        clear H
                        obtain ⟨Ao85, co85, eo85⟩ := Kd.R_slice HO_13.out
                        subst eo85
                        obtain ⟨Ao86, co86, eo86⟩ := Kd.R_slice HO_10.out
                        subst eo86
                        go_wp2_with (first | (go_at_call 19; (with_reducible refine (laws_eqEntryS.calls kj32 _ _ t792 _ _ t779 true _ ?side1 ?side2 ?side3 ?side4 A83.out).mono ?_); (case side1 => repeat (first | exact (Kd.R_reads' HO_13.out).2.2 | (with_reducible refine Kd.C_alloc ?_ _) | (with_reducible refine Kd.C_drewN ?_ _) | (with_reducible refine Kd.C_drew ?_))); (case side2 => exact (Kd.R_reads' HO_13.out).2.1); (case side3 => repeat (first | exact (Kd.R_reads' HO_10.out).2.2 | (with_reducible refine Kd.C_alloc ?_ _) | (with_reducible refine Kd.C_drewN ?_ _) | (with_reducible refine Kd.C_drew ?_))); (case side4 => exact (Kd.R_reads' HO_10.out).2.1); rintro e w87 ⟨rfl, hb⟩; have n0_ := Aside0.mk (Kd.R_below (pR HO_10) hb); have n1_ := Aside0.mk (Kd.R_below (pR HO_13) hb); have n2_ := Aside0.mk (Kd.R_below (pR HO802) hb); have n3_ := Aside0.mk (kb BK767 hb); have n4_ := Aside0.mk (kb BK768 hb); have n5_ := Aside0.mk (kb BK789 hb); have n6_ := Aside0.mk (below_step (w := w) bW hb); clear HO_10; clear HO_13; clear HO802; clear BK767; clear BK768; clear BK789; clear HB; have HO_10 := n0_; have HO_13 := n1_; have HO802 := n2_; have BK767 := n3_; have BK768 := n4_; have BK789 := n5_; have HB := n6_; clear n0_ n1_ n2_ n3_ n4_ n5_ n6_; (try clear hb); (try clear hb2); (try clear hk); (try clear hi)))
                        go_meet
                        case rel => exact ⟨_, ((t795 != t782)), vE, H', ⟨by have := HJ32.out; first | omega | exact Nat.le_refl _⟩, ⟨by (with_reducible repeat (first | apply Kd.R_alloc | apply Kd.R_drewN | apply Kd.R_drew)); exact HO_10.out⟩, ⟨by (with_reducible repeat (first | apply Kd.R_alloc | apply Kd.R_drewN | apply Kd.R_drew)); exact HO_13.out⟩, ⟨by (with_reducible repeat (first | refine blk_drewN ?_ _ | refine blk_drew ?_ | refine blk_alloc ?_ _)); exact BK767.out⟩, ⟨by (with_reducible repeat (first | refine blk_drewN ?_ _ | refine blk_drew ?_ | refine blk_alloc ?_ _)); exact BK768.out⟩, ⟨bW⟩⟩
                      · replace c84 := Bool.eq_false_iff.mpr c84
                        subst c84
                        have H1 : (laws_FnExactScanSnap.j1 kj32 a2 a3 t779 t782 t792 true l0_0 l0_1 a1_0 a1_1) = some true := by rw [if_neg (show ¬ (false = true) by decide)] at H; exact H
                        clear H
                        have H := H1
                        clear H1
                        have H' := Aside0.mk H
                        clear H
                        obtain ⟨Ao88, co88, eo88⟩ := Kd.R_slice HO_13.out
                        subst eo88
                        obtain ⟨Ao89, co89, eo89⟩ := Kd.R_slice HO_10.out
                        subst eo89
                        go_wp2_with (first | (go_at_call 19; (with_reducible refine (laws_eqEntryS.calls kj32 _ _ t792 _ _ t779 false _ ?side1 ?side2 ?side3 ?side4 A83.out).mono ?_); (case side1 => repeat (first | exact (Kd.R_reads' HO_13.out).2.2 | (with_reducible refine Kd.C_alloc ?_ _) | (with_reducible refine Kd.C_drewN ?_ _) | (with_reducible refine Kd.C_drew ?_))); (case side2 => exact (Kd.R_reads' HO_13.out).2.1); (case side3 => repeat (first | exact (Kd.R_reads' HO_10.out).2.2 | (with_reducible refine Kd.C_alloc ?_ _) | (with_reducible refine Kd.C_drewN ?_ _) | (with_reducible refine Kd.C_drew ?_))); (case side4 => exact (Kd.R_reads' HO_10.out).2.1); rintro e w90 ⟨rfl, hb⟩; have n0_ := Aside0.mk (Kd.R_below (pR HO_10) hb); have n1_ := Aside0.mk (Kd.R_below (pR HO_13) hb); have n2_ := Aside0.mk (Kd.R_below (pR HO802) hb); have n3_ := Aside0.mk (kb BK767 hb); have n4_ := Aside0.mk (kb BK768 hb); have n5_ := Aside0.mk (kb BK789 hb); have n6_ := Aside0.mk (below_step (w := w) bW hb); clear HO_10; clear HO_13; clear HO802; clear BK767; clear BK768; clear BK789; clear HB; have HO_10 := n0_; have HO_13 := n1_; have HO802 := n2_; have BK767 := n3_; have BK768 := n4_; have BK789 := n5_; have HB := n6_; clear n0_ n1_ n2_ n3_ n4_ n5_ n6_; (try clear hb); (try clear hb2); (try clear hk); (try clear hi)))
                        go_meet
                        case rel => exact ⟨_, (true), vE, H', ⟨by have := HJ32.out; first | omega | exact Nat.le_refl _⟩, ⟨by (with_reducible repeat (first | apply Kd.R_alloc | apply Kd.R_drewN | apply Kd.R_drew)); exact HO_10.out⟩, ⟨by (with_reducible repeat (first | apply Kd.R_alloc | apply Kd.R_drewN | apply Kd.R_drew)); exact HO_13.out⟩, ⟨by (with_reducible repeat (first | refine blk_drewN ?_ _ | refine blk_drew ?_ | refine blk_alloc ?_ _)); exact BK767.out⟩, ⟨by (with_reducible repeat (first | refine blk_drewN ?_ _ | refine blk_drew ?_ | refine blk_alloc ?_ _)); exact BK768.out⟩, ⟨bW⟩⟩
                  case rest =>
                    clear HC72
                    try clear c1
                    try clear c2
                    try clear p2
                    try clear c3
                    try clear c4
                    try clear c5
                    try clear c5b0
                    try clear c5b1
                    try clear c6
                    try clear c7
                    try clear c8
                    try clear c8b0
                    try clear c8b1
                    try clear c9
                    try clear c12
                    try clear c12b0
                    try clear c15
                    try clear c19
                    try clear c19b0
                    try clear c22
                    try clear c36
                    try clear c38
                    try clear c39
                    try clear c41
                    try clear c42
                    try clear c44
                    try clear c45
                    try clear c46
                    try clear c47
                    try clear c51
                    try clear c52
                    try clear c60
                    try clear c67
                    try clear c70
                    try clear c78
                    try clear c79
                    try clear c82
                    try clear c82b0
                    try clear c84
                    try clear hcz16_0
                    try clear hcz16_1
                    try clear hcz23_0
                    try clear hcz23_1
                    try clear hcz25_0
                    try clear hcz25_1
                    try clear hcz37_0
                    try clear hcz37_1
                    try clear hcz39_0
                    try clear hcz39_1
                    try clear hcz47_0
                    try clear hcz47_1
                    try clear hcz53_0
                    try clear hcz53_1
                    try clear hcz80_0
                    try clear hcz80_1
                    try clear hfz16_0
                    try clear hfz16_1
                    try clear hfz23_0
                    try clear hfz23_1
                    try clear hfz25_0
                    try clear hfz25_1
                    try clear hfz37_0
                    try clear hfz37_1
                    try clear hfz39_0
                    try clear hfz39_1
                    try clear hfz47_0
                    try clear hfz47_1
                    try clear hfz53_0
                    try clear hfz53_1
                    try clear hfz80_0
                    try clear hfz80_1
                    try clear p2
                    obtain ⟨kq, x86_71, rfl, HA, HJ71, HO_10, HO_13, BK767, BK768, HB⟩ := hcut
                    cases kq with
                    | zero => exact absurd HA.out (by simp [laws_FnExactScanSnap.j1])
                    | succ kj71 =>
                      have H := HA.out
                      clear HA
                      simp only [laws_FnExactScanSnap.j1] at H
                      by_cases c91 : x86_71 = true
                      · subst c91
                        have H1 : (some false) = some true := by rw [if_pos rfl] at H; exact H
                        exact absurd H1 (by simp)
                      · replace c91 := Bool.eq_false_iff.mpr c91
                        subst c91
                        have H1 : ((laws_markEntryS.f kj71 t792 1).bind fun bt806 => ((laws_heldEntryS.f kj71 bt806.2 1).bind fun t808 => (if t808 < 0 then (some false) else (if t808 = bt806.1 then ((laws_toBase.f kj71 l0_0 l0_1).bind fun bt809 => ((laws_toSnap.f a1_0 a1_1).bind fun bt815 => ((impl_ScanSnap.f kj71 bt809.1 bt809.2 bt815.1 bt815.2 a2 a3).bind fun bt817 => ((laws_eqEntryS.f kj71 bt817.1 t779).bind fun t821 => (if t821 = true then (laws_FnExactScanSnap.j2 kj71 bt806.2 bt806.1 (bt817.2 != t782)) else (laws_FnExactScanSnap.j2 kj71 bt806.2 bt806.1 true)))))) else (some false))))) = some true := by rw [if_neg (show ¬ (false = true) by decide)] at H; exact H
                        clear H
                        have H := H1
                        clear H1
                        replace H := Option.bind_eq_some_iff.mp H
                        obtain ⟨⟨t806, t807⟩, A920, H⟩ := H
                        replace H : ((laws_heldEntryS.f kj71 t807 1).bind fun t808 => (if t808 < 0 then (some false) else (if t808 = t806 then ((laws_toBase.f kj71 l0_0 l0_1).bind fun bt809 => ((laws_toSnap.f a1_0 a1_1).bind fun bt815 => ((impl_ScanSnap.f kj71 bt809.1 bt809.2 bt815.1 bt815.2 a2 a3).bind fun bt817 => ((laws_eqEntryS.f kj71 bt817.1 t779).bind fun t821 => (if t821 = true then (laws_FnExactScanSnap.j2 kj71 t807 t806 (bt817.2 != t782)) else (laws_FnExactScanSnap.j2 kj71 t807 t806 true)))))) else (some false)))) = some true := H
                        have A92 := Aside0.mk A920
                        clear A920
                        replace H := Option.bind_eq_some_iff.mp H
                        obtain ⟨t808, A930, H⟩ := H
                        replace H : (if t808 < 0 then (some false) else (if t808 = t806 then ((laws_toBase.f kj71 l0_0 l0_1).bind fun bt809 => ((laws_toSnap.f a1_0 a1_1).bind fun bt815 => ((impl_ScanSnap.f kj71 bt809.1 bt809.2 bt815.1 bt815.2 a2 a3).bind fun bt817 => ((laws_eqEntryS.f kj71 bt817.1 t779).bind fun t821 => (if t821 = true then (laws_FnExactScanSnap.j2 kj71 t807 t806 (bt817.2 != t782)) else (laws_FnExactScanSnap.j2 kj71 t807 t806 true)))))) else (some false))) = some true := H
                        have A93 := Aside0.mk A930
                        clear A930
                        by_cases c94 : t808 < 0
                        · rw [if_pos c94] at H
                          exact absurd H (by simp)
                        · rw [if_neg c94] at H
                          have c94b0 : decide (t808 < 0) = false := decide_eq_false c94
                          clear c94
                          by_cases c98 : t808 = t806
                          · rw [if_pos c98] at H
                            have c98b0 : (t808 == t806) = true := beq_iff_eq.mpr c98
                            have c98b1 : (t808 != t806) = false := bne_eq_false_iff_eq.mpr c98
                            clear c98
                            replace H := Option.bind_eq_some_iff.mp H
                            obtain ⟨⟨t809, t812⟩, A990, H⟩ := H
                            replace H : ((laws_toSnap.f a1_0 a1_1).bind fun bt815 => ((impl_ScanSnap.f kj71 t809 t812 bt815.1 bt815.2 a2 a3).bind fun bt817 => ((laws_eqEntryS.f kj71 bt817.1 t779).bind fun t821 => (if t821 = true then (laws_FnExactScanSnap.j2 kj71 t807 t806 (bt817.2 != t782)) else (laws_FnExactScanSnap.j2 kj71 t807 t806 true))))) = some true := H
                            have A99 := Aside0.mk A990
                            clear A990
                            replace H := Option.bind_eq_some_iff.mp H
                            obtain ⟨⟨t815, t816⟩, A1000, H⟩ := H
                            replace H : ((impl_ScanSnap.f kj71 t809 t812 t815 t816 a2 a3).bind fun bt817 => ((laws_eqEntryS.f kj71 bt817.1 t779).bind fun t821 => (if t821 = true then (laws_FnExactScanSnap.j2 kj71 t807 t806 (bt817.2 != t782)) else (laws_FnExactScanSnap.j2 kj71 t807 t806 true)))) = some true := H
                            have A100 := Aside0.mk A1000
                            clear A1000
                            replace H := Option.bind_eq_some_iff.mp H
                            obtain ⟨⟨t817, t820⟩, A1010, H⟩ := H
                            replace H : ((laws_eqEntryS.f kj71 t817 t779).bind fun t821 => (if t821 = true then (laws_FnExactScanSnap.j2 kj71 t807 t806 (t820 != t782)) else (laws_FnExactScanSnap.j2 kj71 t807 t806 true))) = some true := H
                            have A101 := Aside0.mk A1010
                            clear A1010
                            have HC102 := Aside0.mk H
                            clear H
                            obtain ⟨Ao103, co103, eo103⟩ := Kd.R_slice HO_13.out
                            subst eo103
                            try go_wp2_with (first | ((with_reducible refine gate_callee (f := 20) rfl ?_); refine goesL_ (some 89) rfl rfl Try.func20 (by kernel_rfl) rfl #[.slice Ao103 t792.length co103, .int .i64 1] rfl gA ?_; (with_reducible refine (laws_markEntryS.calls kj71 (fun k_ => some k_ = (.slice Ao103 t792.length co103 : Value).ownBlock) (.slice Ao103 t792.length co103) t792 1 t806 t807 w _ ?side1 ?side2 A92.out).mono ?_); (case side1 => repeat (first | (with_reducible first | exact HB.out | apply below_alloc | apply pw_below_drewN | apply below_drew1 | refine below_set ?_ GE767.out | refine below_set ?_ GE768.out) | exact HB.out)); (case side2 => exact Kd.R_tight rfl HO_13.out); rintro e w104 ⟨rfl, hy0, hb, hkp⟩; refine ⟨_, rfl, ?_⟩; have n0_ := Aside0.mk (Kd.R_mono (ok' := fun k_ => some k_ ≠ (.slice Ao103 t792.length co103 : Value).ownBlock) (Kd.R_keptB (HO_10.out) hkp (fun k_ hk_ hs_ => (hk_) hs_)) (fun k_ hk_ => hk_.1)); have n1_ := Aside0.mk (Kd.R_reok rfl hy0 (fun k_ e_ => HO_13.out.1 k_ e_)); have n2_ := Aside0.mk (blk_kept (kB BK767) hkp (fun hs_ => (fun e_ => (Kd.R_ne HO_13.out BK767.out (by decide)) e_) hs_)); have n3_ := Aside0.mk (blk_kept (kB BK768) hkp (fun hs_ => (fun e_ => (Kd.R_ne HO_13.out BK768.out (by decide)) e_) hs_)); have n4_ := Aside0.mk (hb); clear HO_10; clear HO_13; clear BK767; clear BK768; clear HB; have HO_10 := n0_; have HO_13 := n1_; have BK767 := n2_; have BK768 := n3_; have HB := n4_; clear n0_ n1_ n2_ n3_ n4_; (try clear hb); (try clear hkp); (try clear hy0)) | ((with_reducible refine gate_callee (f := 21) rfl ?_); refine goesL_ (some 92) rfl rfl Try.func21 (by kernel_rfl) rfl #[.slice Ao103 t807.length co103, .int .i64 1] rfl (by (try simp only [List.map_toArray, List.map_cons, List.map_nil]); first | done | (rw [show t807.length = t792.length from (Kd.R_reads' HO_13.out).1.symm] <;> rfl) | rfl | (simp only [List.length_drop, List.length_take]; rfl)) ?_; (with_reducible refine (laws_heldEntryS.calls kj71 _ _ t807 1 t808 _ ?side1 ?side2 A93.out).mono ?_); (case side1 => repeat (first | exact (Kd.R_reads' HO_13.out).2.2 | (with_reducible refine Kd.C_alloc ?_ _) | (with_reducible refine Kd.C_drewN ?_ _) | (with_reducible refine Kd.C_drew ?_))); (case side2 => rw [show t807.length = t792.length from (Kd.R_reads' HO_13.out).1.symm]; exact (Kd.R_reads' HO_13.out).2.1); rintro e w105 ⟨rfl, hb⟩; refine ⟨_, rfl, ?_⟩; have n0_ := Aside0.mk (Kd.R_below (pR HO_10) hb); have n1_ := Aside0.mk (Kd.R_below (pR HO_13) hb); have n2_ := Aside0.mk (kb BK767 hb); have n3_ := Aside0.mk (kb BK768 hb); have n4_ := Aside0.mk (below_step (w := w) bW hb); clear HO_10; clear HO_13; clear BK767; clear BK768; clear HB; have HO_10 := n0_; have HO_13 := n1_; have BK767 := n2_; have BK768 := n3_; have HB := n4_; clear n0_ n1_ n2_ n3_ n4_; (try clear hb); (try clear hb2); (try clear hk); (try clear hi)))
                            have n0_ := Aside0.mk (Kd.R_drew HO_10.out)
                            have n1_ := Aside0.mk (Kd.R_drew HO_13.out)
                            have n2_ := Aside0.mk (blk_drew BK767.out)
                            have n3_ := Aside0.mk (blk_drew BK768.out)
                            have n4_ := Aside0.mk (below_drew1 HB.out)
                            clear HO_10
                            clear HO_13
                            clear BK767
                            clear BK768
                            clear HB
                            have HO_10 := n0_
                            have HO_13 := n1_
                            have BK767 := n2_
                            have BK768 := n3_
                            have HB := n4_
                            clear n0_ n1_ n2_ n3_ n4_
                            refine start_ (n := 12) (S := fun w' => w'.cell? ⟨gb767, 0, none⟩ = some (.slice A0_0 l0_0.length c0_0) ∧ w'.cell? ⟨gb767, 1, none⟩ = some (.slice A0_1 l0_1.length c0_1) ∧ w'.cell? ⟨gb768, 0, none⟩ = some (.string a1_0) ∧ w'.cell? ⟨gb768, 1, none⟩ = some (.int .i64 a1_1)) (ds := []) #[false, false, false, false, false, false, false, false, false, false, false, false] (by kernel_rfl) rfl rfl ⟨(blk_cell BK767.out 0).trans rfl, (blk_cell BK767.out 1).trans rfl, (blk_cell BK768.out 0).trans rfl, (blk_cell BK768.out 1).trans rfl⟩ (fun hHeld => ?_); refine with_tabW laws_FnExactScanSnap.tab31 laws_FnExactScanSnap.bits31 (fun HT_ HW_ => ?_)
                            generalize w105.drew = w106 at HO_10 HO_13 BK767 BK768 HB hHeld ⊢
                            refine pure_ (i := 4) (N := some 103) (v := ?_) (a' := ?_) #[false, false, false, false, true, false, false, false, false, false, false, false] rfl rfl (any_of HT_.out (by kernel_rfl)) (fun _ _ _ h => h) (Or.inl ⟨by rfl, ?_⟩) ?_ ?_; rotate_left; (focus intro w'; go_simp; with_reducible rfl); rotate_left; (focus simp only [pt, i64_w, i32_w]; rfl)
                            refine pure_ (i := 5) (N := some 104) (v := ?_) (a' := ?_) #[false, false, false, false, true, true, false, false, false, false, false, false] rfl rfl (any_of HT_.out (by kernel_rfl)) (fun _ _ _ h => h) (Or.inl ⟨by rfl, ?_⟩) ?_ ?_; rotate_left; (focus intro w'; go_simp; with_reducible rfl); rotate_left; (focus simp only [pt, i64_w, i32_w]; rfl)
                            refine take_ (i := 0) (N := some 99) (v := ?_) (a' := ?_) #[true, false, false, false, true, true, false, false, false, false, false, false] rfl rfl (take_ofW HT_.out HW_.out (by kernel_rfl)) (fun _ _ _ h => h) (Or.inl ⟨by rfl, ?_⟩) hHeld ?_ ?_; rotate_left; (focus rintro w' ⟨s0, s1, s2, s3⟩; go_simp; with_reducible rfl); rotate_left; (focus simp only [pt, i64_w, i32_w]; rfl)
                            refine take_ (i := 2) (N := some 101) (v := ?_) (a' := ?_) #[true, false, true, false, true, true, false, false, false, false, false, false] rfl rfl (take_ofW HT_.out HW_.out (by kernel_rfl)) (fun _ _ _ h => h) (Or.inl ⟨by rfl, ?_⟩) hHeld ?_ ?_; rotate_left; (focus rintro w' ⟨s0, s1, s2, s3⟩; go_simp; with_reducible rfl); rotate_left; (focus simp only [pt, i64_w, i32_w]; rfl)
                            refine one_ (i := 1) (N := some 100) #[true, true, true, false, true, true, false, false, false, false, false, false] rfl rfl (one_of HT_.out (by kernel_rfl)) (by decide) (fun K hK => ?_)
                            refine goes_ Try.func41 (by kernel_rfl) rfl #[.agg #[.slice A0_0 l0_0.length c0_0, .slice A0_1 l0_1.length c0_1]] (by rfl) rfl rfl gA ?_
                            with_reducible refine (laws_toBase.calls kj71 _ _ l0_0 _ _ l0_1 t809 t812 _ ?side1 ?side2 ?side3 ?side4 A99.out).mono ?_
                            (case side1 => exact cB HR0_0)
                            (case side2 => exact HC0_0.out)
                            (case side3 => exact cB HR0_1)
                            (case side4 => exact HC0_1.out)
                            rintro e w107 ⟨v810, v813, rfl, ho0, ho1, hb⟩
                            refine ⟨_, rfl, ?_⟩
                            have n0_ := Aside0.mk (Kd.R_below (pR HO_10) hb)
                            have n1_ := Aside0.mk (Kd.R_below (pR HO_13) hb)
                            have n2_ := Aside0.mk (Kd.S_lower (Kd.S_new' (Kd.S_new' ho0 (Kd.R_lt (pR HO_10))) (Kd.R_lt (pR HO_13))) (below_size (w := w) bW))
                            have n3_ := Aside0.mk (Kd.R_lower ho1 (below_size (w := w) bW))
                            have n4_ := Aside0.mk (kb BK767 hb)
                            have n5_ := Aside0.mk (kb BK768 hb)
                            have n6_ := Aside0.mk (below_step (w := w) bW hb)
                            clear HO_10
                            clear HO_13
                            clear BK767
                            clear BK768
                            clear HB
                            have HO_10 := n0_
                            have HO_13 := n1_
                            have HO811 := n2_
                            have HO814 := n3_
                            have BK767 := n4_
                            have BK768 := n5_
                            have HB := n6_
                            clear n0_ n1_ n2_ n3_ n4_ n5_ n6_
                            (try clear hb)
                            (try clear hb2)
                            (try clear hk)
                            (try clear hi)
                            (try clear ho0)
                            (try clear ho1)
                            refine hK.out _ _ ⟨(blk_cell BK767.out 0).trans rfl, (blk_cell BK767.out 1).trans rfl, (blk_cell BK768.out 0).trans rfl, (blk_cell BK768.out 1).trans rfl⟩ (fun hHeld => ?_)
                            clear hK K
                            refine norm_ (a' := ?_) ?_ ?_
                            rotate_left
                            · show Act.put _ (some 100) _ = _
                              simp only [Act.put, List.setIfInBounds_toArray, List.set_cons_zero, List.set_cons_succ, i64_w, i32_w]
                              rfl
                            refine one_ (i := 3) (N := some 102) #[true, true, true, true, true, true, false, false, false, false, false, false] rfl rfl (one_of HT_.out (by kernel_rfl)) (by decide) (fun K hK => ?_)
                            refine goes_ Try.func42 (by kernel_rfl) rfl #[.agg #[.string a1_0, .int .i64 a1_1]] (by rfl) rfl rfl gA ?_
                            with_reducible refine (laws_toSnap.calls a1_0 a1_1 t815 t816 _ A100.out).mono ?_
                            rintro e w108 ⟨rfl, hb⟩
                            refine ⟨_, rfl, ?_⟩
                            have n0_ := Aside0.mk (Kd.R_below (pR HO_10) hb)
                            have n1_ := Aside0.mk (Kd.R_below (pR HO_13) hb)
                            have n2_ := Aside0.mk (Kd.S_below (pS HO811) hb)
                            have n3_ := Aside0.mk (Kd.R_below (pR HO814) hb)
                            have n4_ := Aside0.mk (kb BK767 hb)
                            have n5_ := Aside0.mk (kb BK768 hb)
                            have n6_ := Aside0.mk (below_step (w := w) bW hb)
                            clear HO_10
                            clear HO_13
                            clear HO811
                            clear HO814
                            clear BK767
                            clear BK768
                            clear HB
                            have HO_10 := n0_
                            have HO_13 := n1_
                            have HO811 := n2_
                            have HO814 := n3_
                            have BK767 := n4_
                            have BK768 := n5_
                            have HB := n6_
                            clear n0_ n1_ n2_ n3_ n4_ n5_ n6_
                            (try clear hb)
                            (try clear hb2)
                            (try clear hk)
                            (try clear hi)
                            obtain ⟨Ao109, co109, eo109⟩ := Kd.S_slice HO811.out
                            (first | subst eo109 | (injection eo109 with f1_ f2_ f3_; have f4_ := f1_.symm; have f5_ := f3_.symm; clear f1_ f2_ f3_; subst f4_; subst f5_))
                            obtain ⟨Ao110, co110, eo110⟩ := Kd.R_slice HO814.out
                            (first | subst eo110 | (injection eo110 with f1_ f2_ f3_; have f4_ := f1_.symm; have f5_ := f3_.symm; clear f1_ f2_ f3_; subst f4_; subst f5_))
                            refine hK.out _ _ ⟨(blk_cell BK767.out 0).trans rfl, (blk_cell BK767.out 1).trans rfl, (blk_cell BK768.out 0).trans rfl, (blk_cell BK768.out 1).trans rfl⟩ (fun hHeld => ?_)
                            clear hK K
                            refine norm_ (a' := ?_) ?_ ?_
                            rotate_left
                            · show Act.put _ (some 102) _ = _
                              simp only [Act.put, List.setIfInBounds_toArray, List.set_cons_zero, List.set_cons_succ, i64_w, i32_w]
                              rfl
                            refine one_ (i := 6) (N := some 105) #[true, true, true, true, true, true, true, false, false, false, false, false] rfl rfl (one_of HT_.out (by kernel_rfl)) (by decide) (fun K hK => ?_)
                            refine goes_ Try.func46 (by kernel_rfl) rfl #[.agg #[.slice Ao109 t809.length co109, .slice Ao110 t812.length co110], .agg #[.string t815, .int .i64 t816], .string a2, .string a3] (by rfl) rfl rfl gA ?_
                            with_reducible refine (impl_ScanSnap.calls kj71 _ _ t809 _ _ t812 t815 t816 a2 a3 t817 t820 _ ?side1 ?side2 ?side3 ?side4 A101.out).mono ?_
                            (case side1 => repeat (first | exact (Kd.S_reads' HO811.out).2.2 | (with_reducible refine Kd.C_alloc ?_ _) | (with_reducible refine Kd.C_drewN ?_ _) | (with_reducible refine Kd.C_drew ?_)))
                            (case side2 => exact (Kd.S_reads' HO811.out).2.1)
                            (case side3 => repeat (first | exact (Kd.R_reads' HO814.out).2.2 | (with_reducible refine Kd.C_alloc ?_ _) | (with_reducible refine Kd.C_drewN ?_ _) | (with_reducible refine Kd.C_drew ?_)))
                            (case side4 => exact (Kd.R_reads' HO814.out).2.1)
                            rintro e w111 ⟨v818, rfl, ho0, hb⟩
                            refine ⟨_, rfl, ?_⟩
                            have n0_ := Aside0.mk (Kd.R_elder' (pR HO_10) (Kd.R_base ho0) hb)
                            have n1_ := Aside0.mk (Kd.R_elder' (pR HO_13) (Kd.R_base ho0) hb)
                            have n2_ := Aside0.mk (Kd.S_elder' (pS HO811) (Kd.R_base ho0) hb)
                            have n3_ := Aside0.mk (Kd.R_below (pR HO814) hb)
                            have n4_ := Aside0.mk (Kd.R_lower (Kd.R_new' (Kd.R_new' ho0 (Kd.R_lt (pR HO_10))) (Kd.R_lt (pR HO_13))) (below_size (w := w) bW))
                            have n5_ := Aside0.mk (kb BK767 hb)
                            have n6_ := Aside0.mk (kb BK768 hb)
                            have n7_ := Aside0.mk (below_step (w := w) bW hb)
                            clear HO_10
                            clear HO_13
                            clear HO811
                            clear HO814
                            clear BK767
                            clear BK768
                            clear HB
                            have HO_10 := n0_
                            have HO_13 := n1_
                            have HO811 := n2_
                            have HO814 := n3_
                            have HO819 := n4_
                            have BK767 := n5_
                            have BK768 := n6_
                            have HB := n7_
                            clear n0_ n1_ n2_ n3_ n4_ n5_ n6_ n7_
                            (try clear hb)
                            (try clear hb2)
                            (try clear hk)
                            (try clear hi)
                            (try clear ho0)
                            refine hK.out _ _ ⟨(blk_cell BK767.out 0).trans rfl, (blk_cell BK767.out 1).trans rfl, (blk_cell BK768.out 0).trans rfl, (blk_cell BK768.out 1).trans rfl⟩ (fun hHeld => ?_)
                            clear hK K
                            refine norm_ (a' := ?_) ?_ ?_
                            rotate_left
                            · show Act.put _ (some 105) _ = _
                              simp only [Act.put, List.setIfInBounds_toArray, List.set_cons_zero, List.set_cons_succ, i64_w, i32_w]
                              rfl
                            refine pure_ (i := 7) (N := some 98) (v := ?_) (a' := ?_) #[true, true, true, true, true, true, true, true, false, false, false, false] rfl rfl (any_of HT_.out (by kernel_rfl)) (fun _ _ _ h => h) (Or.inl ⟨by rfl, ?_⟩) ?_ ?_; rotate_left; (focus intro w'; go_simp; with_reducible rfl); rotate_left; (focus simp only [pt, i64_w, i32_w]; rfl)
                            refine pure_ (i := 8) (N := some 106) (v := ?_) (a' := ?_) #[true, true, true, true, true, true, true, true, true, false, false, false] rfl rfl (any_of HT_.out (by kernel_rfl)) (fun _ _ _ h => h) (Or.inl ⟨by rfl, ?_⟩) ?_ ?_; rotate_left; (focus intro w'; go_simp; with_reducible rfl); rotate_left; (focus simp only [pt, i64_w, i32_w]; rfl)
                            refine pure_ (i := 9) (N := some 107) (v := ?_) (a' := ?_) #[true, true, true, true, true, true, true, true, true, true, false, false] rfl rfl (any_of HT_.out (by kernel_rfl)) (fun _ _ _ h => h) (Or.inl ⟨by rfl, ?_⟩) ?_ ?_; rotate_left; (focus intro w'; go_simp; with_reducible rfl); rotate_left; (focus simp only [pt, i64_w, i32_w]; rfl)
                            refine pure_ (i := 10) (N := some 18) (v := ?_) (a' := ?_) #[true, true, true, true, true, true, true, true, true, true, true, false] rfl rfl (any_of HT_.out (by kernel_rfl)) (fun _ _ _ h => h) (Or.inl ⟨by rfl, ?_⟩) ?_ ?_; rotate_left; (focus intro w'; go_simp; with_reducible rfl); rotate_left; (focus simp only [pt, i64_w, i32_w]; rfl)
                            refine pure_ (i := 11) (N := some 19) (v := ?_) (a' := ?_) #[true, true, true, true, true, true, true, true, true, true, true, true] rfl rfl (any_of HT_.out (by kernel_rfl)) (fun _ _ _ h => h) (Or.inl ⟨by rfl, ?_⟩) ?_ ?_; rotate_left; (focus intro w'; go_simp; with_reducible rfl); rotate_left; (focus simp only [pt, i64_w, i32_w]; rfl)
                            refine done_ (done_of HT_.out (by kernel_rfl)) ?_
                            go_upto_region 32 with (fail)
                            go_cut [116] (fun v116 wc => ∃ (kq : Nat) (x116_101 : Bool), v116 = .bool x116_101 ∧ Aside0 (laws_FnExactScanSnap.j2 kq t807 t806 x116_101 = some true) ∧ Aside0 (kq ≤ kj71) ∧ Aside0 (Kd.R k51 51 wc w.heap.size (fun _ => True) (.slice Ao103 t792.length co103) t807) ∧ Aside0 (wc.heap[gb767]? = some (.cells #[(.slice A0_0 l0_0.length c0_0), (.slice A0_1 l0_1.length c0_1)] 57 (0, 0))) ∧ Aside0 (wc.heap[gb768]? = some (.cells #[.string a1_0, .int .i64 a1_1] 59 (0, 0))) ∧ Aside0 (Below w.heap.size w wc))
                            case first =>
                              have H := HC102.out
                              clear HC102
                              replace H := Option.bind_eq_some_iff.mp H
                              obtain ⟨t821, A1120, H⟩ := H
                              replace H : (if t821 = true then (laws_FnExactScanSnap.j2 kj71 t807 t806 (t820 != t782)) else (laws_FnExactScanSnap.j2 kj71 t807 t806 true)) = some true := H
                              have A112 := Aside0.mk A1120
                              clear A1120
                              by_cases c113 : t821 = true
                              · subst c113
                                have H1 : (laws_FnExactScanSnap.j2 kj71 t807 t806 (t820 != t782)) = some true := by rw [if_pos rfl] at H; exact H
                                clear H
                                have H := H1
                                clear H1
                                have H' := Aside0.mk H
                                clear H
                                obtain ⟨Ao114, co114, eo114⟩ := Kd.R_slice HO819.out
                                subst eo114
                                obtain ⟨Ao115, co115, eo115⟩ := Kd.R_slice HO_10.out
                                subst eo115
                                go_wp2_with (first | ((with_reducible refine gate_callee (f := 19) rfl ?_); refine goesL_ (some 110) rfl rfl Try.func19 (by kernel_rfl) rfl #[.slice Ao114 t817.length co114, .slice Ao115 t779.length co115] rfl gA ?_; (with_reducible refine (laws_eqEntryS.calls kj71 _ _ t817 _ _ t779 true _ ?side1 ?side2 ?side3 ?side4 A112.out).mono ?_); (case side1 => repeat (first | exact (Kd.R_reads' HO819.out).2.2 | (with_reducible refine Kd.C_alloc ?_ _) | (with_reducible refine Kd.C_drewN ?_ _) | (with_reducible refine Kd.C_drew ?_))); (case side2 => exact (Kd.R_reads' HO819.out).2.1); (case side3 => repeat (first | exact (Kd.R_reads' HO_10.out).2.2 | (with_reducible refine Kd.C_alloc ?_ _) | (with_reducible refine Kd.C_drewN ?_ _) | (with_reducible refine Kd.C_drew ?_))); (case side4 => exact (Kd.R_reads' HO_10.out).2.1); rintro e w116 ⟨rfl, hb⟩; refine ⟨_, rfl, ?_⟩; have n0_ := Aside0.mk (Kd.R_below (pR HO_10) hb); have n1_ := Aside0.mk (Kd.R_below (pR HO_13) hb); have n2_ := Aside0.mk (Kd.S_below (pS HO811) hb); have n3_ := Aside0.mk (Kd.R_below (pR HO814) hb); have n4_ := Aside0.mk (Kd.R_below (pR HO819) hb); have n5_ := Aside0.mk (kb BK767 hb); have n6_ := Aside0.mk (kb BK768 hb); have n7_ := Aside0.mk (below_step (w := w) bW hb); clear HO_10; clear HO_13; clear HO811; clear HO814; clear HO819; clear BK767; clear BK768; clear HB; have HO_10 := n0_; have HO_13 := n1_; have HO811 := n2_; have HO814 := n3_; have HO819 := n4_; have BK767 := n5_; have BK768 := n6_; have HB := n7_; clear n0_ n1_ n2_ n3_ n4_ n5_ n6_ n7_; (try clear hb); (try clear hb2); (try clear hk); (try clear hi)))
                                go_meet
                                case rel => exact ⟨_, ((t820 != t782)), vE, H', ⟨by have := HJ32.out; have := HJ71.out; first | omega | exact Nat.le_refl _⟩, ⟨by (with_reducible repeat (first | apply Kd.R_alloc | apply Kd.R_drewN | apply Kd.R_drew)); exact Kd.R_mono HO_13.out (fun _ hk => trivial)⟩, ⟨by (with_reducible repeat (first | refine blk_drewN ?_ _ | refine blk_drew ?_ | refine blk_alloc ?_ _)); exact BK767.out⟩, ⟨by (with_reducible repeat (first | refine blk_drewN ?_ _ | refine blk_drew ?_ | refine blk_alloc ?_ _)); exact BK768.out⟩, ⟨bW⟩⟩
                              · replace c113 := Bool.eq_false_iff.mpr c113
                                subst c113
                                have H1 : (laws_FnExactScanSnap.j2 kj71 t807 t806 true) = some true := by rw [if_neg (show ¬ (false = true) by decide)] at H; exact H
                                clear H
                                have H := H1
                                clear H1
                                have H' := Aside0.mk H
                                clear H
                                obtain ⟨Ao117, co117, eo117⟩ := Kd.R_slice HO819.out
                                subst eo117
                                obtain ⟨Ao118, co118, eo118⟩ := Kd.R_slice HO_10.out
                                subst eo118
                                go_wp2_with (first | ((with_reducible refine gate_callee (f := 19) rfl ?_); refine goesL_ (some 110) rfl rfl Try.func19 (by kernel_rfl) rfl #[.slice Ao117 t817.length co117, .slice Ao118 t779.length co118] rfl gA ?_; (with_reducible refine (laws_eqEntryS.calls kj71 _ _ t817 _ _ t779 false _ ?side1 ?side2 ?side3 ?side4 A112.out).mono ?_); (case side1 => repeat (first | exact (Kd.R_reads' HO819.out).2.2 | (with_reducible refine Kd.C_alloc ?_ _) | (with_reducible refine Kd.C_drewN ?_ _) | (with_reducible refine Kd.C_drew ?_))); (case side2 => exact (Kd.R_reads' HO819.out).2.1); (case side3 => repeat (first | exact (Kd.R_reads' HO_10.out).2.2 | (with_reducible refine Kd.C_alloc ?_ _) | (with_reducible refine Kd.C_drewN ?_ _) | (with_reducible refine Kd.C_drew ?_))); (case side4 => exact (Kd.R_reads' HO_10.out).2.1); rintro e w119 ⟨rfl, hb⟩; refine ⟨_, rfl, ?_⟩; have n0_ := Aside0.mk (Kd.R_below (pR HO_10) hb); have n1_ := Aside0.mk (Kd.R_below (pR HO_13) hb); have n2_ := Aside0.mk (Kd.S_below (pS HO811) hb); have n3_ := Aside0.mk (Kd.R_below (pR HO814) hb); have n4_ := Aside0.mk (Kd.R_below (pR HO819) hb); have n5_ := Aside0.mk (kb BK767 hb); have n6_ := Aside0.mk (kb BK768 hb); have n7_ := Aside0.mk (below_step (w := w) bW hb); clear HO_10; clear HO_13; clear HO811; clear HO814; clear HO819; clear BK767; clear BK768; clear HB; have HO_10 := n0_; have HO_13 := n1_; have HO811 := n2_; have HO814 := n3_; have HO819 := n4_; have BK767 := n5_; have BK768 := n6_; have HB := n7_; clear n0_ n1_ n2_ n3_ n4_ n5_ n6_ n7_; (try clear hb); (try clear hb2); (try clear hk); (try clear hi)))
                                go_meet
                                case rel => exact ⟨_, (true), vE, H', ⟨by have := HJ32.out; have := HJ71.out; first | omega | exact Nat.le_refl _⟩, ⟨by (with_reducible repeat (first | apply Kd.R_alloc | apply Kd.R_drewN | apply Kd.R_drew)); exact Kd.R_mono HO_13.out (fun _ hk => trivial)⟩, ⟨by (with_reducible repeat (first | refine blk_drewN ?_ _ | refine blk_drew ?_ | refine blk_alloc ?_ _)); exact BK767.out⟩, ⟨by (with_reducible repeat (first | refine blk_drewN ?_ _ | refine blk_drew ?_ | refine blk_alloc ?_ _)); exact BK768.out⟩, ⟨bW⟩⟩
                            case rest =>
                              clear HC102
                              try clear c1
                              try clear c2
                              try clear p2
                              try clear c3
                              try clear c4
                              try clear c5
                              try clear c5b0
                              try clear c5b1
                              try clear c6
                              try clear c7
                              try clear c8
                              try clear c8b0
                              try clear c8b1
                              try clear c9
                              try clear c11
                              try clear c12
                              try clear c12b0
                              try clear c15
                              try clear c19
                              try clear c19b0
                              try clear c20
                              try clear c21
                              try clear c22
                              try clear c36
                              try clear c38
                              try clear c39
                              try clear c41
                              try clear c42
                              try clear c44
                              try clear c45
                              try clear c46
                              try clear c47
                              try clear c51
                              try clear c52
                              try clear c60
                              try clear c67
                              try clear c70
                              try clear c78
                              try clear c79
                              try clear c82
                              try clear c82b0
                              try clear c84
                              try clear c91
                              try clear c94
                              try clear c94b0
                              try clear c98
                              try clear c98b0
                              try clear c98b1
                              try clear c113
                              try clear hcz16_0
                              try clear hcz16_1
                              try clear hcz23_0
                              try clear hcz23_1
                              try clear hcz25_0
                              try clear hcz25_1
                              try clear hcz37_0
                              try clear hcz37_1
                              try clear hcz39_0
                              try clear hcz39_1
                              try clear hcz47_0
                              try clear hcz47_1
                              try clear hcz53_0
                              try clear hcz53_1
                              try clear hcz80_0
                              try clear hcz80_1
                              try clear hfz16_0
                              try clear hfz16_1
                              try clear hfz23_0
                              try clear hfz23_1
                              try clear hfz25_0
                              try clear hfz25_1
                              try clear hfz37_0
                              try clear hfz37_1
                              try clear hfz39_0
                              try clear hfz39_1
                              try clear hfz47_0
                              try clear hfz47_1
                              try clear hfz53_0
                              try clear hfz53_1
                              try clear hfz80_0
                              try clear hfz80_1
                              try clear p2
                              obtain ⟨kq, x116_101, rfl, HA, HJ101, HO_13, BK767, BK768, HB⟩ := hcut
                              have hl13_101 := (Kd.R_reads' HO_13.out).1
                              rw [hl13_101] at HO_13
                              (try simp only [hl13_101])
                              (try simp only [hl13_101] at BK767)
                              (try simp only [hl13_101] at BK768)
                              cases kq with
                              | zero => exact absurd HA.out (by simp [laws_FnExactScanSnap.j2])
                              | succ kj101 =>
                                have H := HA.out
                                clear HA
                                simp only [laws_FnExactScanSnap.j2] at H
                                by_cases c120 : x116_101 = true
                                · subst c120
                                  have H1 : (some false) = some true := by rw [if_pos rfl] at H; exact H
                                  exact absurd H1 (by simp)
                                · replace c120 := Bool.eq_false_iff.mpr c120
                                  subst c120
                                  have H1 : ((laws_heldEntryS.f kj101 t807 1).bind fun t822 => (if t822 < 0 then (some false) else (if t822 = t806 then (some true) else (some false)))) = some true := by rw [if_neg (show ¬ (false = true) by decide)] at H; exact H
                                  clear H
                                  have H := H1
                                  clear H1
                                  replace H := Option.bind_eq_some_iff.mp H
                                  obtain ⟨t822, A1210, H⟩ := H
                                  replace H : (if t822 < 0 then (some false) else (if t822 = t806 then (some true) else (some false))) = some true := H
                                  have A121 := Aside0.mk A1210
                                  clear A1210
                                  by_cases c122 : t822 < 0
                                  · rw [if_pos c122] at H
                                    exact absurd H (by simp)
                                  · rw [if_neg c122] at H
                                    have c122b0 : decide (t822 < 0) = false := decide_eq_false c122
                                    clear c122
                                    by_cases c124 : t822 = t806
                                    · rw [if_pos c124] at H
                                      have c124b0 : (t822 == t806) = true := beq_iff_eq.mpr c124
                                      have c124b1 : (t822 != t806) = false := bne_eq_false_iff_eq.mpr c124
                                      clear c124
                                      clear H
                                      go_wp2_with (first | ((with_reducible refine gate_callee (f := 21) rfl ?_); refine goesL_ (some 119) rfl rfl Try.func21 (by kernel_rfl) rfl #[.slice Ao103 t807.length co103, .int .i64 1] rfl gA ?_; (with_reducible refine (laws_heldEntryS.calls kj101 _ _ t807 1 t822 _ ?side1 ?side2 A121.out).mono ?_); (case side1 => repeat (first | exact (Kd.R_reads' HO_13.out).2.2 | (with_reducible refine Kd.C_alloc ?_ _) | (with_reducible refine Kd.C_drewN ?_ _) | (with_reducible refine Kd.C_drew ?_))); (case side2 => exact (Kd.R_reads' HO_13.out).2.1); rintro e w125 ⟨rfl, hb⟩; refine ⟨_, rfl, ?_⟩; have n0_ := Aside0.mk (Kd.R_below (pR HO_13) hb); have n1_ := Aside0.mk (kb BK767 hb); have n2_ := Aside0.mk (kb BK768 hb); have n3_ := Aside0.mk (below_step (w := w) bW hb); clear HO_13; clear BK767; clear BK768; clear HB; have HO_13 := n0_; have BK767 := n1_; have BK768 := n2_; have HB := n3_; clear n0_ n1_ n2_ n3_; (try clear hb); (try clear hb2); (try clear hk); (try clear hi)))
                                      go_ret
                                      exact ⟨rE, bW⟩
                                    · rw [if_neg c124] at H
                                      exact absurd H (by simp)
                          · rw [if_neg c98] at H
                            exact absurd H (by simp)
                · replace c70 := Bool.eq_false_iff.mpr c70
                  subst c70
                  have H1 : (some false) = some true := by rw [if_neg (show ¬ (false = true) by decide)] at H; exact H
                  exact absurd H1 (by simp)
end Go.Proofs.Ytcpljigliklgcaa.Q
end

section
namespace Go.Proofs.Ytcpljigliklgcaa.Q
open Go.RowKit Go.Proofs.YtcpljigliklgcaaW.PrintWords Go.Proofs.YtcpljigliklgcaaW.PrintLast Go.Proofs.YtcpljigliklgcaaW.PrintMore
attribute [local go_sem] max2_int min2_int max_two min_two max_three min_three max_four min_four   -- for this text's walks alone
set_option linter.unusedVariables false
set_option linter.unusedSimpArgs false
attribute [local go_sem] bin_leq bin_gtr bin_geq
def Opens {α : Type} (P : Program) (d : Kd α) (t : TypeId) (G : α → Prop) : Prop :=
  P.cellsOf t = d.sz ∧ ∀ {H : Type} (enc : TypeId × Value → H) (w : World) (base : Nat) (spare : Nat → Bool) (held : Bool) (fuel : Nat) (cs : List Value) (x : DataW H × List MemPlace),
    DataW.trod enc P w base spare held fuel t cs = some x → ∃ v, d.K w v cs ∧ G v
theorem add_twice (a : Addr) (m i : Nat) : (a.add m).add i = a.add (m + i) := by
  unfold Addr.add
  by_cases h1 : m = 0 <;> by_cases h2 : i = 0 <;> simp_all [Nat.add_assoc]
theorem opens_int {P : Program} {t : TypeId} {k : IntKind} (ht : P.underlying t = some (.int k)) (hc : P.cellsOf t = 1) : Opens P (Kd.int k) t (fun n => (Lit.int k n).wf = true) := by
  refine ⟨hc, fun enc w base spare held fuel cs x h => ?_⟩
  cases fuel with
  | zero => simp [DataW.trod] at h
  | succ n =>
    unfold DataW.trod at h
    rw [ht] at h
    split at h <;> simp_all
    obtain ⟨⟨rfl, h1⟩, _⟩ := h
    exact ⟨_, rfl, h1⟩
theorem opens_bool {P : Program} {t : TypeId} (ht : P.underlying t = some .bool) (hc : P.cellsOf t = 1) : Opens P Kd.bool t (fun _ => True) := by
  refine ⟨hc, fun enc w base spare held fuel cs x h => ?_⟩
  cases fuel with
  | zero => simp [DataW.trod] at h
  | succ n =>
    unfold DataW.trod at h
    rw [ht] at h
    split at h <;> simp_all
    rename_i b
    cases b
    · exact .inl rfl
    · exact .inr rfl
theorem opens_string {P : Program} {t : TypeId} (ht : P.underlying t = some .string) (hc : P.cellsOf t = 1) : Opens P Kd.string t (fun s => s.size ≤ 9223372036854775807) := by
  refine ⟨hc, fun enc w base spare held fuel cs x h => ?_⟩
  cases fuel with
  | zero => simp [DataW.trod] at h
  | succ n =>
    unfold DataW.trod at h
    rw [ht] at h
    split at h <;> simp_all
    exact ⟨_, rfl, h.1⟩
theorem list_of {α : Type} {Q : Nat → α → Prop} : ∀ n, (∀ i, i < n → ∃ v, Q i v) → ∃ l : List α, l.length = n ∧ ∀ i v, l[i]? = some v → Q i v
  | 0, _ => ⟨[], rfl, fun i v h => by simp at h⟩
  | n + 1, h => by
    obtain ⟨l, hl, hq⟩ := list_of n (fun i hi => h i (by omega))
    obtain ⟨v, hv⟩ := h n (by omega)
    refine ⟨l ++ [v], by simp [hl], fun i u hu => ?_⟩
    by_cases hi : i < l.length
    · rw [List.getElem?_append_left hi] at hu
      exact hq i u hu
    · have hi2 : i = l.length := by
        have := (List.getElem?_eq_some_iff.1 hu).1
        rw [List.length_append, List.length_singleton] at this
        omega
      subst hi2
      have hu' : v = u := by simpa using hu
      subst hu'
      rw [hl]
      exact hv
theorem opens_slice {α : Type} {P : Program} {d : Kd α} {t e : TypeId} {G : α → Prop} (ht : P.underlying t = some (.slice e)) (hc : P.cellsOf t = 1) (O : Opens P d e G) :
    Opens P (Kd.slice e d) t (fun l => l.length ≤ 9223372036854775807 ∧ ∀ x, x ∈ l → G x) := by
  refine ⟨hc, fun enc w base spare held fuel cs x h => ?_⟩
  rcases DataW.trod_slice ht h with ⟨rfl, _⟩ | ⟨a, len, cap, elems, rest, n, _, rfl, _, hb, hl, hm, hlen, hel, _, _⟩
  · exact ⟨[], ⟨none, 0, rfl, Nat.le_refl _, Kd.C_nil d w⟩, by simp, fun x hx => by simp at hx⟩
  · have each : ∀ i, i < len → ∃ v : α, (∃ c, c.length = d.sz ∧ d.K w v c ∧ ∀ j u, c[j]? = some u → w.cell? (a.add (i * d.sz + j)) = some u) ∧ G v := by
      intro i hi
      have h1 := hel i hi
      have h2 : elems[i]? = some (elems[i]'(by omega)) := List.getElem?_eq_getElem (by omega)
      rw [h2, Option.bind_eq_some_iff] at h1
      obtain ⟨c, hcc, htr⟩ := h1
      obtain ⟨v, hK, hG⟩ := O.2 enc w base spare held n c _ htr
      obtain ⟨_, hcl, hcells⟩ := World.cells?_some hcc
      refine ⟨v, ⟨c, d.K_len hK, hK, fun j u hu => ?_⟩, hG⟩
      have hj : j < c.length := (List.getElem?_eq_some_iff.1 hu).1
      have := hcells j (by omega)
      rw [hu, add_twice, O.1] at this
      exact this
    obtain ⟨l, hll, hq⟩ := list_of len each
    refine ⟨l, ⟨some a, cap, by rw [hll], by omega, hll ▸ ?_⟩, by unfold maxLen at hm; omega, fun x hx => ?_⟩
    · refine ⟨hll, by unfold maxLen at hm; omega, fun hp => ⟨a, rfl, fun j p hj => ?_⟩⟩
      obtain ⟨c, h1, h2, h3⟩ := (hq j p hj).1
      exact ⟨c, h1, h2, h3⟩
    · obtain ⟨i, hi, rfl⟩ := List.mem_iff_getElem.mp hx
      exact (hq i _ (List.getElem?_eq_getElem hi)).2
end Go.Proofs.Ytcpljigliklgcaa.Q
end

section
namespace Go.Proofs.Ytcpljigliklgcaa.Q
open Go.RowKit Go.Proofs.YtcpljigliklgcaaW.PrintWords Go.Proofs.YtcpljigliklgcaaW.PrintLast Go.Proofs.YtcpljigliklgcaaW.PrintMore
attribute [local go_sem] max2_int min2_int max_two min_two max_three min_three max_four min_four   -- for this text's walks alone
set_option linter.unusedVariables false
set_option linter.unusedSimpArgs false
attribute [local go_sem] bin_leq bin_gtr bin_geq
def good125 (x : S125) : Prop := (fun s => s.size ≤ 9223372036854775807) x.f0 ∧ (fun n => (Lit.int .i64 n).wf = true) x.f1
set_option maxRecDepth 100000 in
theorem opens_125 : Opens Try.prog k125 125 good125 := by
  refine ⟨by kernel_rfl, fun enc w base spare held fuel cs x h => ?_⟩
  obtain ⟨xs, n, _, _, hcl, hxl, hf⟩ := DataW.trod_struct Try.underlying125 h
  have hcl2 : cs.length = 2 := hcl.trans (by kernel_rfl)
  obtain ⟨c0, c1, rfl⟩ : ∃ c0 c1, cs = [c0, c1] := by
    match cs, hcl2 with
    | [c0, c1], _ => exact ⟨c0, c1, rfl⟩
  have h0 := hf 0 _ rfl
  rw [List.getElem?_eq_getElem (show 0 < xs.length by rw [hxl]; decide)] at h0
  obtain ⟨v0, K0, G0⟩ := (opens_string Try.underlying9 (by kernel_rfl)).2 enc w base spare held n [c0] _ ((show DataW.trod enc Try.prog w base spare held n 9 [c0] = _ from (by first | exact h0 | (rw [show Try.prog.cellsOf 9 = 1 by kernel_rfl] at h0; exact h0))))
  have h1 := hf 1 _ rfl
  rw [List.getElem?_eq_getElem (show 1 < xs.length by rw [hxl]; decide)] at h1
  obtain ⟨v1, K1, G1⟩ := (opens_int (k := .i64) Try.underlying3 (by kernel_rfl)).2 enc w base spare held n [c1] _ ((show DataW.trod enc Try.prog w base spare held n 3 [c1] = _ from (by first | exact h1 | (rw [show Try.prog.cellsOf 3 = 1 by kernel_rfl] at h1; exact h1))))
  exact ⟨⟨v0, v1⟩, ⟨[c0], [c1], rfl, K0, K1⟩, ⟨G0, G1⟩⟩
end Go.Proofs.Ytcpljigliklgcaa.Q
end

section
namespace Go.Proofs.Ytcpljigliklgcaa.Q
open Go.RowKit Go.Proofs.YtcpljigliklgcaaW.PrintWords Go.Proofs.YtcpljigliklgcaaW.PrintLast Go.Proofs.YtcpljigliklgcaaW.PrintMore
attribute [local go_sem] max2_int min2_int max_two min_two max_three min_three max_four min_four   -- for this text's walks alone
set_option linter.unusedVariables false
set_option linter.unusedSimpArgs false
attribute [local go_sem] bin_leq bin_gtr bin_geq
def good209 (x : S209) : Prop := (fun l => l.length ≤ 9223372036854775807 ∧ ∀ x, x ∈ l → (fun n => (Lit.int .i64 n).wf = true) x) x.f0 ∧ (fun l => l.length ≤ 9223372036854775807 ∧ ∀ x, x ∈ l → good125 x) x.f1
set_option maxRecDepth 100000 in
theorem opens_209 : Opens Try.prog k209 209 good209 := by
  refine ⟨by kernel_rfl, fun enc w base spare held fuel cs x h => ?_⟩
  obtain ⟨xs, n, _, _, hcl, hxl, hf⟩ := DataW.trod_struct Try.underlying209 h
  have hcl2 : cs.length = 2 := hcl.trans (by kernel_rfl)
  obtain ⟨c0, c1, rfl⟩ : ∃ c0 c1, cs = [c0, c1] := by
    match cs, hcl2 with
    | [c0, c1], _ => exact ⟨c0, c1, rfl⟩
  have h0 := hf 0 _ rfl
  rw [List.getElem?_eq_getElem (show 0 < xs.length by rw [hxl]; decide)] at h0
  obtain ⟨v0, K0, G0⟩ := (opens_slice Try.underlying116 (by kernel_rfl) (opens_int (k := .i64) Try.underlying3 (by kernel_rfl))).2 enc w base spare held n [c0] _ ((show DataW.trod enc Try.prog w base spare held n 116 [c0] = _ from (by first | exact h0 | (rw [show Try.prog.cellsOf 116 = 1 by kernel_rfl] at h0; exact h0))))
  have h1 := hf 1 _ rfl
  rw [List.getElem?_eq_getElem (show 1 < xs.length by rw [hxl]; decide)] at h1
  obtain ⟨v1, K1, G1⟩ := (opens_slice Try.underlying22 (by kernel_rfl) opens_125).2 enc w base spare held n [c1] _ ((show DataW.trod enc Try.prog w base spare held n 22 [c1] = _ from (by first | exact h1 | (rw [show Try.prog.cellsOf 22 = 1 by kernel_rfl] at h1; exact h1))))
  exact ⟨⟨v0, v1⟩, ⟨[c0], [c1], rfl, K0, K1⟩, ⟨G0, G1⟩⟩
end Go.Proofs.Ytcpljigliklgcaa.Q
end

section
namespace Go.Proofs.Ytcpljigliklgcaa.Q
open Go.RowKit Go.Proofs.YtcpljigliklgcaaW.PrintWords Go.Proofs.YtcpljigliklgcaaW.PrintLast Go.Proofs.YtcpljigliklgcaaW.PrintMore
attribute [local go_sem] max2_int min2_int max_two min_two max_three min_three max_four min_four   -- for this text's walks alone
set_option linter.unusedVariables false
set_option linter.unusedSimpArgs false
attribute [local go_sem] bin_leq bin_gtr bin_geq
def good211 (x : S211) : Prop := (fun s => s.size ≤ 9223372036854775807) x.f0 ∧ (fun n => (Lit.int .i64 n).wf = true) x.f1 ∧ (fun n => (Lit.int .i64 n).wf = true) x.f2 ∧ (fun _ => True) x.f3
set_option maxRecDepth 100000 in
theorem opens_211 : Opens Try.prog k211 211 good211 := by
  refine ⟨by kernel_rfl, fun enc w base spare held fuel cs x h => ?_⟩
  obtain ⟨xs, n, _, _, hcl, hxl, hf⟩ := DataW.trod_struct Try.underlying211 h
  have hcl2 : cs.length = 4 := hcl.trans (by kernel_rfl)
  obtain ⟨c0, c1, c2, c3, rfl⟩ : ∃ c0 c1 c2 c3, cs = [c0, c1, c2, c3] := by
    match cs, hcl2 with
    | [c0, c1, c2, c3], _ => exact ⟨c0, c1, c2, c3, rfl⟩
  have h0 := hf 0 _ rfl
  rw [List.getElem?_eq_getElem (show 0 < xs.length by rw [hxl]; decide)] at h0
  obtain ⟨v0, K0, G0⟩ := (opens_string Try.underlying9 (by kernel_rfl)).2 enc w base spare held n [c0] _ ((show DataW.trod enc Try.prog w base spare held n 9 [c0] = _ from (by first | exact h0 | (rw [show Try.prog.cellsOf 9 = 1 by kernel_rfl] at h0; exact h0))))
  have h1 := hf 1 _ rfl
  rw [List.getElem?_eq_getElem (show 1 < xs.length by rw [hxl]; decide)] at h1
  obtain ⟨v1, K1, G1⟩ := (opens_int (k := .i64) Try.underlying3 (by kernel_rfl)).2 enc w base spare held n [c1] _ ((show DataW.trod enc Try.prog w base spare held n 3 [c1] = _ from (by first | exact h1 | (rw [show Try.prog.cellsOf 3 = 1 by kernel_rfl] at h1; exact h1))))
  have h2 := hf 2 _ rfl
  rw [List.getElem?_eq_getElem (show 2 < xs.length by rw [hxl]; decide)] at h2
  obtain ⟨v2, K2, G2⟩ := (opens_int (k := .i64) Try.underlying3 (by kernel_rfl)).2 enc w base spare held n [c2] _ ((show DataW.trod enc Try.prog w base spare held n 3 [c2] = _ from (by first | exact h2 | (rw [show Try.prog.cellsOf 3 = 1 by kernel_rfl] at h2; exact h2))))
  have h3 := hf 3 _ rfl
  rw [List.getElem?_eq_getElem (show 3 < xs.length by rw [hxl]; decide)] at h3
  obtain ⟨v3, K3, G3⟩ := (opens_bool Try.underlying4 (by kernel_rfl)).2 enc w base spare held n [c3] _ ((show DataW.trod enc Try.prog w base spare held n 4 [c3] = _ from (by first | exact h3 | (rw [show Try.prog.cellsOf 4 = 1 by kernel_rfl] at h3; exact h3))))
  exact ⟨⟨v0, v1, v2, v3⟩, ⟨[c0], [c1, c2, c3], rfl, K0, ⟨[c1], [c2, c3], rfl, K1, ⟨[c2], [c3], rfl, K2, K3⟩⟩⟩, ⟨G0, G1, G2, G3⟩⟩
end Go.Proofs.Ytcpljigliklgcaa.Q
end

section
namespace Go.Proofs.Ytcpljigliklgcaa.Q
open Go.RowKit Go.Proofs.YtcpljigliklgcaaW.PrintWords Go.Proofs.YtcpljigliklgcaaW.PrintLast Go.Proofs.YtcpljigliklgcaaW.PrintMore
attribute [local go_sem] max2_int min2_int max_two min_two max_three min_three max_four min_four   -- for this text's walks alone
set_option linter.unusedVariables false
set_option linter.unusedSimpArgs false
attribute [local go_sem] bin_leq bin_gtr bin_geq
def good57 (x : S57) : Prop := (fun l => l.length ≤ 9223372036854775807 ∧ ∀ x, x ∈ l → good209 x) x.f0 ∧ (fun l => l.length ≤ 9223372036854775807 ∧ ∀ x, x ∈ l → good211 x) x.f1
set_option maxRecDepth 100000 in
theorem opens_57 : Opens Try.prog k57 57 good57 := by
  refine ⟨by kernel_rfl, fun enc w base spare held fuel cs x h => ?_⟩
  obtain ⟨xs, n, _, _, hcl, hxl, hf⟩ := DataW.trod_struct Try.underlying57 h
  have hcl2 : cs.length = 2 := hcl.trans (by kernel_rfl)
  obtain ⟨c0, c1, rfl⟩ : ∃ c0 c1, cs = [c0, c1] := by
    match cs, hcl2 with
    | [c0, c1], _ => exact ⟨c0, c1, rfl⟩
  have h0 := hf 0 _ rfl
  rw [List.getElem?_eq_getElem (show 0 < xs.length by rw [hxl]; decide)] at h0
  obtain ⟨v0, K0, G0⟩ := (opens_slice Try.underlying54 (by kernel_rfl) opens_209).2 enc w base spare held n [c0] _ ((show DataW.trod enc Try.prog w base spare held n 54 [c0] = _ from (by first | exact h0 | (rw [show Try.prog.cellsOf 54 = 1 by kernel_rfl] at h0; exact h0))))
  have h1 := hf 1 _ rfl
  rw [List.getElem?_eq_getElem (show 1 < xs.length by rw [hxl]; decide)] at h1
  obtain ⟨v1, K1, G1⟩ := (opens_slice Try.underlying55 (by kernel_rfl) opens_211).2 enc w base spare held n [c1] _ ((show DataW.trod enc Try.prog w base spare held n 55 [c1] = _ from (by first | exact h1 | (rw [show Try.prog.cellsOf 55 = 1 by kernel_rfl] at h1; exact h1))))
  exact ⟨⟨v0, v1⟩, ⟨[c0], [c1], rfl, K0, K1⟩, ⟨G0, G1⟩⟩
end Go.Proofs.Ytcpljigliklgcaa.Q
end

section
namespace Go.Proofs.Ytcpljigliklgcaa.Q
open Go.RowKit Go.Proofs.YtcpljigliklgcaaW.PrintWords Go.Proofs.YtcpljigliklgcaaW.PrintLast Go.Proofs.YtcpljigliklgcaaW.PrintMore
attribute [local go_sem] max2_int min2_int max_two min_two max_three min_three max_four min_four   -- for this text's walks alone
set_option linter.unusedVariables false
set_option linter.unusedSimpArgs false
attribute [local go_sem] bin_leq bin_gtr bin_geq
def good59 (x : S59) : Prop := (fun s => s.size ≤ 9223372036854775807) x.f0 ∧ (fun n => (Lit.int .i64 n).wf = true) x.f1
set_option maxRecDepth 100000 in
theorem opens_59 : Opens Try.prog k59 59 good59 := by
  refine ⟨by kernel_rfl, fun enc w base spare held fuel cs x h => ?_⟩
  obtain ⟨xs, n, _, _, hcl, hxl, hf⟩ := DataW.trod_struct Try.underlying59 h
  have hcl2 : cs.length = 2 := hcl.trans (by kernel_rfl)
  obtain ⟨c0, c1, rfl⟩ : ∃ c0 c1, cs = [c0, c1] := by
    match cs, hcl2 with
    | [c0, c1], _ => exact ⟨c0, c1, rfl⟩
  have h0 := hf 0 _ rfl
  rw [List.getElem?_eq_getElem (show 0 < xs.length by rw [hxl]; decide)] at h0
  obtain ⟨v0, K0, G0⟩ := (opens_string Try.underlying9 (by kernel_rfl)).2 enc w base spare held n [c0] _ ((show DataW.trod enc Try.prog w base spare held n 9 [c0] = _ from (by first | exact h0 | (rw [show Try.prog.cellsOf 9 = 1 by kernel_rfl] at h0; exact h0))))
  have h1 := hf 1 _ rfl
  rw [List.getElem?_eq_getElem (show 1 < xs.length by rw [hxl]; decide)] at h1
  obtain ⟨v1, K1, G1⟩ := (opens_int (k := .i64) Try.underlying3 (by kernel_rfl)).2 enc w base spare held n [c1] _ ((show DataW.trod enc Try.prog w base spare held n 3 [c1] = _ from (by first | exact h1 | (rw [show Try.prog.cellsOf 3 = 1 by kernel_rfl] at h1; exact h1))))
  exact ⟨⟨v0, v1⟩, ⟨[c0], [c1], rfl, K0, K1⟩, ⟨G0, G1⟩⟩
end Go.Proofs.Ytcpljigliklgcaa.Q
end

section
namespace Go.Proofs.Ytcpljigliklgcaa.Q
open Go.RowKit Go.Proofs.YtcpljigliklgcaaW.PrintWords Go.Proofs.YtcpljigliklgcaaW.PrintLast Go.Proofs.YtcpljigliklgcaaW.PrintMore
attribute [local go_sem] max2_int min2_int max_two min_two max_three min_three max_four min_four   -- for this text's walks alone
set_option linter.unusedVariables false
set_option linter.unusedSimpArgs false
attribute [local go_sem] bin_leq bin_gtr bin_geq
def laws_FnExactScanSnap.Pure : Prop := ∀ (l0_0 : List (S209)) (l0_1 : List (S211)) (a1_0 : ByteArray) (a1_1 : Int) (a2 : ByteArray) (a3 : ByteArray), good57 (⟨l0_0, l0_1⟩ : S57) → good59 (⟨a1_0, a1_1⟩ : S59) → a2.size ≤ 140737488351232 → a3.size ≤ 140737488351232 → ∃ k, laws_FnExactScanSnap.f k l0_0 l0_1 a1_0 a1_1 a2 a3 = some true
theorem laws_FnExactScanSnap.walk (P : laws_FnExactScanSnap.Pure) (A0_0 : Option Addr) (c0_0 : Nat) (l0_0 : List (S209)) (A0_1 : Option Addr) (c0_1 : Nat) (l0_1 : List (S211)) (a1_0 : ByteArray) (a1_1 : Int) (a2 : ByteArray) (a3 : ByteArray) (w : World) (w0 : good57 (⟨l0_0, l0_1⟩ : S57)) (w1 : good59 (⟨a1_0, a1_1⟩ : S59)) (w2 : a2.size ≤ 140737488351232) (w3 : a3.size ≤ 140737488351232) (hr0_0 : Kd.C k209 w A0_0 l0_0.length l0_0) (hc0_0 : l0_0.length ≤ c0_0) (hr0_1 : Kd.C k211 w A0_1 l0_1.length l0_1) (hc0_1 : l0_1.length ≤ c0_1) :
    Calls Try.prog 9 #[.agg #[.slice A0_0 l0_0.length c0_0, .slice A0_1 l0_1.length c0_1], .agg #[.string a1_0, .int .i64 a1_1], .string a2, .string a3] w fun e w' => e = .returned (.bool true) ∧ Below w.heap.size w w' := by
  obtain ⟨k, hk⟩ := P l0_0 l0_1 a1_0 a1_1 a2 a3 w0 w1 w2 w3
  exact (laws_FnExactScanSnap.calls k A0_0 c0_0 l0_0 A0_1 c0_1 l0_1 a1_0 a1_1 a2 a3 w hr0_0 hc0_0 hr0_1 hc0_1 hk).mono fun e w' h => ⟨h.1, h.2⟩
end Go.Proofs.Ytcpljigliklgcaa.Q
end

section
namespace Go.Proofs.Ytcpljigliklgcaa.Q
open Go.RowKit Go.Proofs.YtcpljigliklgcaaW.PrintWords Go.Proofs.YtcpljigliklgcaaW.PrintLast Go.Proofs.YtcpljigliklgcaaW.PrintMore
attribute [local go_sem] max2_int min2_int max_two min_two max_three min_three max_four min_four   -- for this text's walks alone
set_option linter.unusedVariables false
set_option linter.unusedSimpArgs false
attribute [local go_sem] bin_leq bin_gtr bin_geq
theorem ev_map_loop {α β : Type} {L : Nat → List α → List β → Int → Option (List β)} {g : Nat → α → Option β} {cv : α → β} {z : α}
    (step : ∀ k xs acc i, L (k + 1) xs acc i = if i < (xs.length : Int) then (if 0 ≤ i then ((g k (xs.getD i.toNat z)).bind fun y => (if i < (acc.length : Int) then (L k xs (acc.set i.toNat y) (wrap64 (i + 1))) else none)) else none) else some acc)
    (xs : List α) (hlen : xs.length ≤ 4611686018427387904) (hg : ∀ x, x ∈ xs → Ev (fun k => g k x) (cv x)) (acc : List β) (ha : acc.length = xs.length) : Ev (fun k => L k xs acc 0) (xs.map cv) := by
  have key : ∀ d (i : Nat) (acc : List β), i + d = xs.length → acc.length = xs.length → Ev (fun k => L k xs acc (i : Int)) (acc.take i ++ (xs.drop i).map cv) := by
    intro d
    induction d with
    | zero =>
      intro i acc hi ha
      refine Ev.step (f := fun _ => some acc) (fun k => by rw [step, if_neg (by omega)]) ?_
      rw [List.take_of_length_le (by omega), List.drop_eq_nil_of_le (by omega)]
      simpa using Ev.now acc
    | succ d ih =>
      intro i acc hi ha
      have hl : i < xs.length := by omega
      have hw : wrap64 ((i : Int) + 1) = ((i + 1 : Nat) : Int) := by unfold wrap64; omega
      have hx : xs.getD ((i : Int).toNat) z = xs[i] := by simp [List.getD_eq_getElem?_getD, List.getElem?_eq_getElem hl]
      refine Ev.step (f := fun k => (g k xs[i]).bind fun y => L k xs (acc.set i y) ((i + 1 : Nat) : Int)) (fun k => ?_) ?_
      · rw [step, if_pos (by omega), if_pos (by omega), hx, hw]
        congr 1
        funext y
        rw [if_pos (by omega)]
        simp
      · have h2 := ih (i + 1) (acc.set i (cv xs[i])) (by omega) (by simpa using ha)
        have e : (acc.set i (cv xs[i])).take (i + 1) ++ (xs.drop (i + 1)).map cv = acc.take i ++ (xs.drop i).map cv := by
          rw [List.drop_eq_getElem_cons hl, List.map_cons, List.take_succ_eq_append_getElem (by simpa using (show i < acc.length by omega)), List.take_set_of_le (by omega)]
          simp
        rw [e] at h2
        exact Ev.bind (hg _ (List.getElem_mem hl)) h2
  have h := key xs.length 0 acc (by omega) ha
  simpa using h
theorem ev_refl_loop {α : Type} {L : Nat → List α → List α → Int → Option Bool} {g : Nat → α → α → Option Bool} {z : α}
    (step : ∀ k xs ys i, L (k + 1) xs ys i = if i < (xs.length : Int) then (if 0 ≤ i then (if i < (ys.length : Int) then ((g k (xs.getD i.toNat z) (ys.getD i.toNat z)).bind fun t => (if t = true then L k xs ys (wrap64 (i + 1)) else some false)) else none) else none) else some true)
    (xs : List α) (hlen : xs.length ≤ 4611686018427387904) (hg : ∀ x, x ∈ xs → Ev (fun k => g k x x) true) : Ev (fun k => L k xs xs 0) true := by
  have key : ∀ d (i : Nat), i + d = xs.length → Ev (fun k => L k xs xs (i : Int)) true := by
    intro d
    induction d with
    | zero =>
      intro i hi
      exact Ev.step (f := fun _ => some true) (fun k => by rw [step, if_neg (by omega)]) (Ev.now true)
    | succ d ih =>
      intro i hi
      have hl : i < xs.length := by omega
      have hw : wrap64 ((i : Int) + 1) = ((i + 1 : Nat) : Int) := by unfold wrap64; omega
      have hx : xs.getD ((i : Int).toNat) z = xs[i] := by simp [List.getD_eq_getElem?_getD, List.getElem?_eq_getElem hl]
      refine Ev.step (f := fun k => (g k xs[i] xs[i]).bind fun t => if t = true then L k xs xs ((i + 1 : Nat) : Int) else some false) (fun k => ?_) ?_
      · rw [step, if_pos (by omega), if_pos (by omega), if_pos (by omega), hx, hw]
      · refine Ev.bind (hg _ (List.getElem_mem hl)) ?_
        simp only [if_true]
        exact ih (i + 1) (by omega)
  exact key xs.length 0 (by omega)
theorem ev_sz_loop {α : Type} {L : Nat → List α → Int → Int → Option Int} {g : Nat → α → Int → Option Int} {z : α}
    (step : ∀ k xs left i, L (k + 1) xs left i = if i < (xs.length : Int) then (if 0 ≤ i then ((g k (xs.getD i.toNat z) left).bind fun t => (if t < 0 then some (-1) else L k xs t (wrap64 (i + 1)))) else none) else some left)
    (xs : List α) (hlen : xs.length ≤ 4611686018427387904) (hg : ∀ x, x ∈ xs → ∀ left : Int, 0 ≤ left → left ≤ 1048576 → ∃ r, Ev (fun k => g k x left) r ∧ r ≤ left) (left : Int) (h0 : 0 ≤ left) (h1 : left ≤ 1048576) :
    ∃ r, Ev (fun k => L k xs left 0) r ∧ r ≤ left := by
  have key : ∀ d (i : Nat) (left : Int), i + d = xs.length → 0 ≤ left → left ≤ 1048576 → ∃ r, Ev (fun k => L k xs left (i : Int)) r ∧ r ≤ left := by
    intro d
    induction d with
    | zero =>
      intro i left hi h0 h1
      exact ⟨left, Ev.step (f := fun _ => some left) (fun k => by rw [step, if_neg (by omega)]) (Ev.now left), by omega⟩
    | succ d ih =>
      intro i left hi h0 h1
      have hl : i < xs.length := by omega
      have hw : wrap64 ((i : Int) + 1) = ((i + 1 : Nat) : Int) := by unfold wrap64; omega
      have hx : xs.getD ((i : Int).toNat) z = xs[i] := by simp [List.getD_eq_getElem?_getD, List.getElem?_eq_getElem hl]
      obtain ⟨t, ht, htl⟩ := hg _ (List.getElem_mem hl) left h0 h1
      by_cases hn : t < 0
      · refine ⟨-1, Ev.step (f := fun k => (g k xs[i] left).bind fun t => if t < 0 then some (-1) else L k xs t ((i + 1 : Nat) : Int)) (fun k => ?_) (Ev.bind ht ?_), by omega⟩
        · rw [step, if_pos (by omega), if_pos (by omega), hx, hw]
        · simp only [hn, if_true]
          exact Ev.now _
      · obtain ⟨r, hr, hrl⟩ := ih (i + 1) t (by omega) (by omega) (by omega)
        refine ⟨r, Ev.step (f := fun k => (g k xs[i] left).bind fun t => if t < 0 then some (-1) else L k xs t ((i + 1 : Nat) : Int)) (fun k => ?_) (Ev.bind ht ?_), by omega⟩
        · rw [step, if_pos (by omega), if_pos (by omega), hx, hw]
        · simp only [hn, if_false]
          exact hr
  exact key xs.length 0 left (by omega) h0 h1
end Go.Proofs.Ytcpljigliklgcaa.Q
end

section
namespace Go.Proofs.Ytcpljigliklgcaa.Q
open Go.RowKit Go.Proofs.YtcpljigliklgcaaW.PrintWords Go.Proofs.YtcpljigliklgcaaW.PrintLast
set_option linter.unusedVariables false
def cvEntry (x : S125) : S51 := ⟨x.f0, x.f1⟩
theorem toEntryS_ev (l : List S125) (h : l.length ≤ 1048576) : Ev (fun k => laws_toEntryS.f k l) (l.map cvEntry) := by
  refine Ev.congr (f := fun k => laws_toEntryS.l0 k l (List.replicate l.length z51) 0) (fun k => ?_) ?_
  · unfold laws_toEntryS.f
    rw [if_pos (by omega), if_pos (by omega)]
    rfl
  · exact ev_map_loop (L := laws_toEntryS.l0) (g := fun _ x => some (cvEntry x)) (z := z125) (fun _ _ _ _ => rfl) l (by omega) (fun x _ => Ev.now _) _ (by simp)
theorem eqEntry_refl (x : S51) : laws_eqEntry.f x.f0 x.f1 x.f0 x.f1 = some true := by
  unfold laws_eqEntry.f
  simp
theorem eqEntryS_ev (l : List S51) (h : l.length ≤ 1048576) : Ev (fun k => laws_eqEntryS.f k l l) true := by
  refine Ev.congr (f := fun k => laws_eqEntryS.l0 k l l 0) (fun k => ?_) ?_
  · unfold laws_eqEntryS.f
    rw [if_pos rfl]
  · exact ev_refl_loop (L := laws_eqEntryS.l0) (g := fun _ x y => laws_eqEntry.f x.f0 x.f1 y.f0 y.f1) (z := z51) (fun _ _ _ _ => rfl) l (by omega) (fun x _ => Ev.congr (fun _ => eqEntry_refl x) (Ev.now _))
theorem szEntryS_ev (l : List S125) (hl : l.length ≤ 9223372036854775807) (hg : ∀ x, x ∈ l → good125 x) (left : Int) (h0 : 0 ≤ left) (h1 : left ≤ 1048576) :
    ∃ r, Ev (fun k => laws_szEntryS.f k l left) r ∧ r ≤ left ∧ (0 ≤ r → l.length ≤ 1048576) := by
  have hw : wrap64 (left - (l.length : Int)) = left - (l.length : Int) := by unfold wrap64; omega
  by_cases hn : left - (l.length : Int) < 0
  · refine ⟨-1, Ev.congr (f := fun _ => some (-1)) (fun k => ?_) (Ev.now _), by omega, by omega⟩
    unfold laws_szEntryS.f
    rw [hw, if_pos hn]
  · obtain ⟨r, hr, hrl⟩ := ev_sz_loop (L := laws_szEntryS.l0) (g := fun _ x left => laws_szEntry.f x.f0 x.f1 left) (z := z125) (fun _ _ _ _ => rfl) l (by omega) (fun x hx left h0 h1 => by
      have hsz : x.f0.size ≤ 9223372036854775807 := (hg x hx).1
      have hw2 : wrap64 (left - (x.f0.size : Int)) = left - (x.f0.size : Int) := by unfold wrap64; omega
      by_cases h2 : left - (x.f0.size : Int) < 0
      · refine ⟨-1, Ev.congr (f := fun _ => some (-1)) (fun k => ?_) (Ev.now _), by omega⟩
        unfold laws_szEntry.f
        rw [hw2, if_pos h2]
      · refine ⟨left - (x.f0.size : Int), Ev.congr (f := fun _ => some (left - (x.f0.size : Int))) (fun k => ?_) (Ev.now _), by omega⟩
        unfold laws_szEntry.f
        rw [hw2, if_neg h2]) (left - (l.length : Int)) (by omega) (by omega)
    refine ⟨r, Ev.congr (f := fun k => laws_szEntryS.l0 k l (left - (l.length : Int)) 0) (fun k => ?_) hr, by omega, by omega⟩
    unfold laws_szEntryS.f
    rw [hw, if_neg hn]
end Go.Proofs.Ytcpljigliklgcaa.Q
end

section
namespace Go.Proofs.Ytcpljigliklgcaa.Q
open Go.RowKit Go.Proofs.YtcpljigliklgcaaW.PrintWords Go.Proofs.YtcpljigliklgcaaW.PrintLast
set_option linter.unusedVariables false
theorem Ev.shift {α : Type} {g h : Nat → Option α} {r : α} {c d : Nat} (e : ∀ k, g (k + c) = h (k + d)) (k : Ev h r) : Ev g r := by
  obtain ⟨K, hK⟩ := k
  refine ⟨K + c, fun n hn => ?_⟩
  obtain ⟨m, rfl⟩ : ∃ m, n = m + c := ⟨n - c, by omega⟩
  rw [e]
  exact hK _ (by omega)
theorem Ev.at_ {α : Type} {g : Nat → Option α} {r : α} {c : Nat} (e : ∀ k, g (k + c) = some r) : Ev g r := by
  refine ⟨c, fun n hn => ?_⟩
  obtain ⟨m, rfl⟩ : ∃ m, n = m + c := ⟨n - c, by omega⟩
  exact e m
theorem Ev.succ {α : Type} {g : Nat → Option α} {r : α} (h : Ev (fun k => g (k + 1)) r) : Ev g r := Ev.step (fun _ => rfl) h
theorem ev_all_loop {L : Nat → Int → Option Bool} {n : Nat} {p : Nat → Bool} {fin : Bool}
    (step : ∀ i : Nat, i < n → (∀ j, j < i → p j = true) → p i = true → ∃ c d, ∀ k, L (k + c) (i : Int) = L (k + d) ((i + 1 : Nat) : Int))
    (stop : ∀ i : Nat, i < n → (∀ j, j < i → p j = true) → p i = false → ∃ c, ∀ k, L (k + c) (i : Int) = some false)
    (done : Ev (fun k => L k (n : Int)) fin) : Ev (fun k => L k 0) (allR p n && fin) := by
  have key : ∀ d (i : Nat), i + d = n → (∀ j, j < i → p j = true) → Ev (fun k => L k (i : Int)) (allR p n && fin) := by
    intro d
    induction d with
    | zero =>
      intro i hi hp
      obtain rfl : i = n := by omega
      rw [allR_true hp, Bool.true_and]
      exact done
    | succ d ih =>
      intro i hi hp
      cases h : p i with
      | true =>
        obtain ⟨c, d', e⟩ := step i (by omega) hp h
        refine Ev.shift e (ih (i + 1) (by omega) (fun j hj => ?_))
        rcases Nat.lt_or_eq_of_le (Nat.le_of_lt_succ hj) with h1 | h1
        · exact hp j h1
        · rw [h1]; exact h
      | false =>
        obtain ⟨c, e⟩ := stop i (by omega) hp h
        rw [allR_false (by omega) h, Bool.false_and]
        exact Ev.at_ e
  exact key n 0 (by omega) (fun j hj => absurd hj (Nat.not_lt_zero _))
theorem ev_all_loop2 {L : Nat → Int → Option Bool} {n : Nat} {p : Nat → Bool} {fin : Bool} (m : Nat)
    (step : ∀ i : Nat, m ≤ i → i < n → (∀ j, j < i → p j = true) → p i = true → ∀ r, Ev (fun k => L k ((i + 1 : Nat) : Int)) r → Ev (fun k => L k (i : Int)) r)
    (stop : ∀ i : Nat, m ≤ i → i < n → (∀ j, j < i → p j = true) → p i = false → Ev (fun k => L k (i : Int)) false)
    (done : Ev (fun k => L k (n : Int)) fin) (hm : m ≤ n) (hpm : ∀ j, j < m → p j = true) : Ev (fun k => L k (m : Int)) (allR p n && fin) := by
  have key : ∀ d (i : Nat), m ≤ i → i + d = n → (∀ j, j < i → p j = true) → Ev (fun k => L k (i : Int)) (allR p n && fin) := by
    intro d
    induction d with
    | zero =>
      intro i _ hi hp
      obtain rfl : i = n := by omega
      rw [allR_true hp, Bool.true_and]
      exact done
    | succ d ih =>
      intro i hmi hi hp
      cases h : p i with
      | true =>
        refine step i hmi (by omega) hp h _ (ih (i + 1) (by omega) (by omega) (fun j hj => ?_))
        rcases Nat.lt_or_eq_of_le (Nat.le_of_lt_succ hj) with h1 | h1
        · exact hp j h1
        · rw [h1]; exact h
      | false =>
        rw [allR_false (by omega) h, Bool.false_and]
        exact stop i hmi (by omega) hp h
  exact key (n - m) m (Nat.le_refl _) (by omega) hpm
theorem ev_idx_loop {α : Type} {L : Nat → Int → Option Int} {l : List α} {q : α → Bool}
    (step : ∀ (i : Nat) (hi : i < l.length), q l[i] = false → ∀ k, L (k + 1) (i : Int) = L k ((i + 1 : Nat) : Int))
    (stop : ∀ (i : Nat) (hi : i < l.length), q l[i] = true → ∀ k, L (k + 1) (i : Int) = some (i : Int))
    (done : ∀ k, L (k + 1) (l.length : Int) = some (-1)) : Ev (fun k => L k 0) (idxI q l) := by
  have key : ∀ d (i : Nat), i + d = l.length → (∀ j (hj : j < l.length), j < i → q l[j] = false) → Ev (fun k => L k (i : Int)) (idxI q l) := by
    intro d
    induction d with
    | zero =>
      intro i hi hp
      obtain rfl : i = l.length := by omega
      rw [idxI_none (fun j hj => hp j hj hj)]
      exact Ev.at_ (c := 1) done
    | succ d ih =>
      intro i hi hp
      cases h : q (l[i]'(by omega)) with
      | false =>
        refine Ev.step (step i (by omega) h) (ih (i + 1) (by omega) (fun j hj h2 => ?_))
        rcases Nat.lt_or_eq_of_le (Nat.le_of_lt_succ h2) with h1 | h1
        · exact hp j hj h1
        · subst h1; exact h
      | true =>
        rw [idxI_some (by omega) (fun j hj => hp j (by omega) hj) h]
        exact Ev.at_ (c := 1) (stop i (by omega) h)
  exact key l.length 0 (by omega) (fun j _ hj => absurd hj (Nat.not_lt_zero _))
theorem ev_same_loop {α : Type} {L : Nat → Int → Option Bool} {xs ys : List α} (hl : xs.length = ys.length)
    (step : ∀ (i : Nat) (h1 : i < xs.length) (h2 : i < ys.length), xs[i] = ys[i] → ∀ k, L (k + 1) (i : Int) = L k ((i + 1 : Nat) : Int))
    (stop : ∀ (i : Nat) (h1 : i < xs.length) (h2 : i < ys.length), xs[i] ≠ ys[i] → ∀ k, L (k + 1) (i : Int) = some false)
    (done : ∀ k, L (k + 1) (xs.length : Int) = some true) : ∃ b, Ev (fun k => L k 0) b ∧ (b = true ↔ xs = ys) := by
  have key : ∀ d (i : Nat), i + d = xs.length → xs.take i = ys.take i → ∃ b, Ev (fun k => L k (i : Int)) b ∧ (b = true ↔ xs = ys) := by
    intro d
    induction d with
    | zero =>
      intro i hi hp
      obtain rfl : i = xs.length := by omega
      refine ⟨true, Ev.at_ (c := 1) done, fun _ => ?_, fun _ => rfl⟩
      rw [List.take_length, hl, List.take_length] at hp
      exact hp
    | succ d ih =>
      intro i hi hp
      have h1 : i < xs.length := by omega
      have h2 : i < ys.length := by omega
      rcases Classical.em (xs[i] = ys[i]) with h | h
      · obtain ⟨b, hb, hb2⟩ := ih (i + 1) (by omega) (by rw [List.take_succ_eq_append_getElem h1, List.take_succ_eq_append_getElem h2, hp, h])
        exact ⟨b, Ev.step (step i h1 h2 h) hb, hb2⟩
      · refine ⟨false, Ev.at_ (c := 1) (stop i h1 h2 h), by simp, fun e => absurd (by subst e; rfl) h⟩
  exact key xs.length 0 (by omega) (by simp)
theorem all_allR {α : Type} (q : α → Bool) (z : α) (l : List α) : l.all q = allR (fun j => q (l.getD j z)) l.length := by
  rw [Bool.eq_iff_iff, List.all_eq_true, allR_iff]
  constructor
  · intro h j hj
    rw [List.getD_eq_getElem?_getD, List.getElem?_eq_getElem hj]
    exact h _ (List.getElem_mem hj)
  · intro h x hx
    obtain ⟨j, hj, rfl⟩ := List.mem_iff_getElem.mp hx
    have := h j hj
    rwa [List.getD_eq_getElem?_getD, List.getElem?_eq_getElem hj] at this
theorem allR_and (p q : Nat → Bool) (n : Nat) : allR (fun j => p j && q j) n = (allR p n && allR q n) := by
  rw [Bool.eq_iff_iff, Bool.and_eq_true, allR_iff, allR_iff, allR_iff]
  simp only [Bool.and_eq_true]
  exact ⟨fun h => ⟨fun j hj => (h j hj).1, fun j hj => (h j hj).2⟩, fun h j hj => ⟨h.1 j hj, h.2 j hj⟩⟩
theorem wrap_i {i : Nat} (h : i < 4611686018427387904) : wrap64 ((i : Int) + 1) = ((i + 1 : Nat) : Int) := by unfold wrap64; omega
theorem wrap_2 {i : Int} (h0 : -4611686018427387904 ≤ i) (h : i < 4611686018427387904) : wrap64 (i + 1) = i + 1 := by unfold wrap64; omega
end Go.Proofs.Ytcpljigliklgcaa.Q
end

section
namespace Go.Proofs.Ytcpljigliklgcaa.Q
open Go.RowKit Go.Proofs.YtcpljigliklgcaaW.PrintWords Go.Proofs.YtcpljigliklgcaaW.PrintLast
set_option linter.unusedVariables false
set_option linter.unusedSimpArgs false
theorem toIntS_ev (l : List Int) (h : l.length ≤ 1048576) : Ev (fun k => laws_toIntS.f k l) l := by
  refine Ev.congr (f := fun k => laws_toIntS.l0 k l (List.replicate l.length 0) 0) (fun k => ?_) ?_
  · unfold laws_toIntS.f
    rw [if_pos (by omega), if_pos (by omega)]
    rfl
  · have h2 := ev_map_loop (L := laws_toIntS.l0) (g := fun _ x => some x) (cv := fun x => x) (z := (0 : Int)) (fun _ _ _ _ => rfl) l (by omega) (fun x _ => Ev.now _) (List.replicate l.length 0) (by simp)
    simpa using h2
theorem eqIntS_ev (l : List Int) (hl : l.length ≤ 1048576) : Ev (fun k => laws_eqIntS.f k l l) true := by
  obtain ⟨b, hb, h⟩ := ev_same_loop (L := fun k i => laws_eqIntS.l0 k l l i) (xs := l) (ys := l) rfl (fun i h1 h2 e k => by
    have c1 : (i : Int) < (l.length : Int) := by omega
    simp only [laws_eqIntS.l0, c1, Int.natCast_nonneg, if_true, wrap_i (show i < 4611686018427387904 by omega)]) (fun i h1 h2 e k => absurd rfl e) (fun k => by
    simp only [laws_eqIntS.l0]
    rw [if_neg (by omega)])
  obtain rfl : b = true := h.mpr rfl
  exact Ev.congr (f := fun k => laws_eqIntS.l0 k l l 0) (fun k => by unfold laws_eqIntS.f; rw [if_pos rfl]) hb
theorem szIntS_ev (l : List Int) (hl : l.length ≤ 9223372036854775807) (left : Int) (h0 : 0 ≤ left) (h1 : left ≤ 1048576) :
    ∃ r, laws_szIntS.f l left = some r ∧ r ≤ left ∧ (0 ≤ r → l.length ≤ 1048576) := by
  have hw : wrap64 (left - (l.length : Int)) = left - (l.length : Int) := by unfold wrap64; omega
  unfold laws_szIntS.f
  rw [hw]
  by_cases hn : left - (l.length : Int) < 0
  · exact ⟨-1, by rw [if_pos hn], by omega, by omega⟩
  · exact ⟨left - (l.length : Int), by rw [if_neg hn], by omega, by omega⟩
def cvCommit (x : S209) : S118 := ⟨x.f0, x.f1.map cvEntry⟩
def fitC (x : S209) : Prop := x.f0.length ≤ 1048576 ∧ x.f1.length ≤ 1048576
theorem szCommit_ev (x : S209) (g : good209 x) (left : Int) (h0 : 0 ≤ left) (h1 : left ≤ 1048576) : ∃ r, Ev (fun k => laws_szCommit.f k x.f0 x.f1 left) r ∧ r ≤ left ∧ (0 ≤ r → fitC x) := by
  unfold laws_szCommit.f
  obtain ⟨r, hr, hrl, hrs⟩ := szIntS_ev x.f0 g.1.1 left h0 h1
  simp only [hr, Option.bind_some]
  by_cases hn : r < 0
  · exact ⟨-1, by simp only [hn, if_true]; exact Ev.now _, by omega, by omega⟩
  · obtain ⟨r', hr', hrl', hrs'⟩ := szEntryS_ev x.f1 g.2.1 g.2.2 r (by omega) (by omega)
    by_cases hn' : r' < 0
    · exact ⟨-1, by simp only [hn, if_false]; refine Ev.bind hr' ?_; simp only [hn', if_true]; exact Ev.now _, by omega, by omega⟩
    · exact ⟨r', by simp only [hn, if_false]; refine Ev.bind hr' ?_; simp only [hn', if_false]; exact Ev.now _, by omega, fun h => ⟨hrs (by omega), hrs' h⟩⟩
theorem ev_sz_loop2 {α : Type} {L : Nat → List α → Int → Int → Option Int} {g : Nat → α → Int → Option Int} {z : α} {P : α → Prop}
    (step : ∀ k xs left i, L (k + 1) xs left i = if i < (xs.length : Int) then (if 0 ≤ i then ((g k (xs.getD i.toNat z) left).bind fun t => (if t < 0 then some (-1) else L k xs t (wrap64 (i + 1)))) else none) else some left)
    (xs : List α) (hlen : xs.length ≤ 4611686018427387904) (hg : ∀ x, x ∈ xs → ∀ left : Int, 0 ≤ left → left ≤ 1048576 → ∃ r, Ev (fun k => g k x left) r ∧ r ≤ left ∧ (0 ≤ r → P x)) (left : Int) (h0 : 0 ≤ left) (h1 : left ≤ 1048576) :
    ∃ r, Ev (fun k => L k xs left 0) r ∧ r ≤ left ∧ (0 ≤ r → ∀ x, x ∈ xs → P x) := by
  have key : ∀ d (i : Nat) (left : Int), i + d = xs.length → 0 ≤ left → left ≤ 1048576 → ∃ r, Ev (fun k => L k xs left (i : Int)) r ∧ r ≤ left ∧ (0 ≤ r → ∀ x, x ∈ xs.drop i → P x) := by
    intro d
    induction d with
    | zero =>
      intro i left hi h0 h1
      refine ⟨left, Ev.step (f := fun _ => some left) (fun k => by rw [step, if_neg (by omega)]) (Ev.now left), by omega, fun _ x hx => ?_⟩
      rw [List.drop_eq_nil_of_le (by omega)] at hx
      cases hx
    | succ d ih =>
      intro i left hi h0 h1
      have hl : i < xs.length := by omega
      have hw : wrap64 ((i : Int) + 1) = ((i + 1 : Nat) : Int) := by unfold wrap64; omega
      have hx : xs.getD ((i : Int).toNat) z = xs[i] := by simp [List.getD_eq_getElem?_getD, List.getElem?_eq_getElem hl]
      obtain ⟨t, ht, htl, hP⟩ := hg _ (List.getElem_mem hl) left h0 h1
      have hstep : ∀ k, L (k + 1) xs left (i : Int) = (g k xs[i] left).bind fun t => if t < 0 then some (-1) else L k xs t ((i + 1 : Nat) : Int) := fun k => by rw [step, if_pos (by omega), if_pos (by omega), hx, hw]
      by_cases hn : t < 0
      · refine ⟨-1, Ev.step hstep (Ev.bind ht ?_), by omega, by omega⟩
        simp only [hn, if_true]
        exact Ev.now _
      · obtain ⟨r, hr, hrl, hrP⟩ := ih (i + 1) t (by omega) (by omega) (by omega)
        refine ⟨r, Ev.step hstep (Ev.bind ht ?_), by omega, fun h x hx => ?_⟩
        · simp only [hn, if_false]
          exact hr
        · rw [List.drop_eq_getElem_cons hl] at hx
          rcases List.mem_cons.mp hx with rfl | hx
          · exact hP (by omega)
          · exact hrP h x hx
  have h := key xs.length 0 left (by omega) h0 h1
  simpa using h
theorem szCommitS_ev (l : List S209) (hl : l.length ≤ 9223372036854775807) (hg : ∀ x, x ∈ l → good209 x) (left : Int) (h0 : 0 ≤ left) (h1 : left ≤ 1048576) :
    ∃ r, Ev (fun k => laws_szCommitS.f k l left) r ∧ r ≤ left ∧ (0 ≤ r → l.length ≤ 1048576 ∧ ∀ x, x ∈ l → fitC x) := by
  have hw : wrap64 (left - (l.length : Int)) = left - (l.length : Int) := by unfold wrap64; omega
  by_cases hn : left - (l.length : Int) < 0
  · refine ⟨-1, Ev.congr (f := fun _ => some (-1)) (fun k => ?_) (Ev.now _), by omega, by omega⟩
    unfold laws_szCommitS.f
    rw [hw, if_pos hn]
  · obtain ⟨r, hr, hrl, hrP⟩ := ev_sz_loop2 (L := laws_szCommitS.l0) (g := fun k x left => laws_szCommit.f k x.f0 x.f1 left) (z := z209) (P := fitC) (fun _ _ _ _ => rfl) l (by omega) (fun x hx left h0 h1 => szCommit_ev x (hg x hx) left h0 h1) (left - (l.length : Int)) (by omega) (by omega)
    refine ⟨r, Ev.congr (f := fun k => laws_szCommitS.l0 k l (left - (l.length : Int)) 0) (fun k => ?_) hr, by omega, fun h => ⟨by omega, hrP h⟩⟩
    unfold laws_szCommitS.f
    rw [hw, if_neg hn]
theorem toCommit_ev (x : S209) (h : fitC x) : Ev (fun k => laws_toCommit.f k x.f0 x.f1) (x.f0, x.f1.map cvEntry) := by
  unfold laws_toCommit.f
  exact Ev.bind (toIntS_ev _ h.1) (Ev.bind (toEntryS_ev _ h.2) (Ev.now _))
theorem toCommitS_ev (l : List S209) (h : l.length ≤ 1048576) (hf : ∀ x, x ∈ l → fitC x) : Ev (fun k => laws_toCommitS.f k l) (l.map cvCommit) := by
  refine Ev.congr (f := fun k => laws_toCommitS.l0 k l (List.replicate l.length z118) 0) (fun k => ?_) ?_
  · unfold laws_toCommitS.f
    rw [if_pos (by omega), if_pos (by omega)]
    rfl
  · exact ev_map_loop (L := laws_toCommitS.l0) (g := fun k x => (laws_toCommit.f k x.f0 x.f1).bind fun bt => some (⟨bt.1, bt.2⟩ : S118)) (cv := cvCommit) (z := z209) (fun k xs acc i => by
      simp only [laws_toCommitS.l0, Option.bind_assoc, Option.bind_some]
      rfl) l (by omega) (fun x hx => Ev.bind (toCommit_ev x (hf x hx)) (Ev.now _)) _ (by simp)
theorem eqCommitS_ev (l : List S118) (h : l.length ≤ 1048576) (hf : ∀ x, x ∈ l → x.f0.length ≤ 1048576 ∧ x.f1.length ≤ 1048576) : Ev (fun k => laws_eqCommitS.f k l l) true := by
  refine Ev.congr (f := fun k => laws_eqCommitS.l0 k l l 0) (fun k => ?_) ?_
  · unfold laws_eqCommitS.f
    rw [if_pos rfl]
  · exact ev_refl_loop (L := laws_eqCommitS.l0) (g := fun k x y => laws_eqCommit.f k x.f0 x.f1 y.f0 y.f1) (z := z118) (fun _ _ _ _ => rfl) l (by omega) (fun x hx => by
      unfold laws_eqCommit.f
      refine Ev.bind (eqIntS_ev _ (hf x hx).1) ?_
      simp only [if_true]
      refine Ev.bind (eqEntryS_ev _ (hf x hx).2) ?_
      simp only [if_true]
      exact Ev.now _)
theorem fit_cv {l : List S209} (hf : ∀ x, x ∈ l → fitC x) : ∀ x, x ∈ l.map cvCommit → x.f0.length ≤ 1048576 ∧ x.f1.length ≤ 1048576 := by
  intro x hx
  obtain ⟨y, hy, rfl⟩ := List.mem_map.mp hx
  exact ⟨(hf y hy).1, by simpa [cvCommit] using (hf y hy).2⟩
end Go.Proofs.Ytcpljigliklgcaa.Q
end

section
namespace Go.Proofs.Ytcpljigliklgcaa.Q
open Go.RowKit Go.Proofs.YtcpljigliklgcaaW.PrintWords Go.Proofs.YtcpljigliklgcaaW.PrintLast
set_option linter.unusedVariables false
def cvRef (x : S211) : S178 := ⟨x.f0, x.f1, x.f2, x.f3⟩
theorem toRefS_ev (l : List S211) (h : l.length ≤ 1048576) : Ev (fun k => laws_toRefS.f k l) (l.map cvRef) := by
  refine Ev.congr (f := fun k => laws_toRefS.l0 k l (List.replicate l.length z178) 0) (fun k => ?_) ?_
  · unfold laws_toRefS.f
    rw [if_pos (by omega), if_pos (by omega)]
    rfl
  · exact ev_map_loop (L := laws_toRefS.l0) (g := fun _ x => some (cvRef x)) (z := z211) (fun _ _ _ _ => rfl) l (by omega) (fun x _ => Ev.now _) _ (by simp)
theorem eqRef_refl (x : S178) : laws_eqRef.f x.f0 x.f1 x.f2 x.f3 x.f0 x.f1 x.f2 x.f3 = some true := by
  unfold laws_eqRef.f
  simp
theorem eqRefS_ev (l : List S178) (h : l.length ≤ 1048576) : Ev (fun k => laws_eqRefS.f k l l) true := by
  refine Ev.congr (f := fun k => laws_eqRefS.l0 k l l 0) (fun k => ?_) ?_
  · unfold laws_eqRefS.f
    rw [if_pos rfl]
  · exact ev_refl_loop (L := laws_eqRefS.l0) (g := fun _ x y => laws_eqRef.f x.f0 x.f1 x.f2 x.f3 y.f0 y.f1 y.f2 y.f3) (z := z178) (fun _ _ _ _ => rfl) l (by omega) (fun x _ => Ev.congr (fun _ => eqRef_refl x) (Ev.now _))
theorem szRefS_ev (l : List S211) (hl : l.length ≤ 9223372036854775807) (hg : ∀ x, x ∈ l → good211 x) (left : Int) (h0 : 0 ≤ left) (h1 : left ≤ 1048576) :
    ∃ r, Ev (fun k => laws_szRefS.f k l left) r ∧ r ≤ left ∧ (0 ≤ r → l.length ≤ 1048576) := by
  have hw : wrap64 (left - (l.length : Int)) = left - (l.length : Int) := by unfold wrap64; omega
  by_cases hn : left - (l.length : Int) < 0
  · refine ⟨-1, Ev.congr (f := fun _ => some (-1)) (fun k => ?_) (Ev.now _), by omega, by omega⟩
    unfold laws_szRefS.f
    rw [hw, if_pos hn]
  · obtain ⟨r, hr, hrl⟩ := ev_sz_loop (L := laws_szRefS.l0) (g := fun _ x left => laws_szRef.f x.f0 x.f1 x.f2 x.f3 left) (z := z211) (fun _ _ _ _ => rfl) l (by omega) (fun x hx left h0 h1 => by
      have hsz : x.f0.size ≤ 9223372036854775807 := (hg x hx).1
      have hw2 : wrap64 (left - (x.f0.size : Int)) = left - (x.f0.size : Int) := by unfold wrap64; omega
      by_cases h2 : left - (x.f0.size : Int) < 0
      · refine ⟨-1, Ev.congr (f := fun _ => some (-1)) (fun k => ?_) (Ev.now _), by omega⟩
        unfold laws_szRef.f
        rw [hw2, if_pos h2]
      · refine ⟨left - (x.f0.size : Int), Ev.congr (f := fun _ => some (left - (x.f0.size : Int))) (fun k => ?_) (Ev.now _), by omega⟩
        unfold laws_szRef.f
        rw [hw2, if_neg h2]) (left - (l.length : Int)) (by omega) (by omega)
    refine ⟨r, Ev.congr (f := fun k => laws_szRefS.l0 k l (left - (l.length : Int)) 0) (fun k => ?_) hr, by omega, by omega⟩
    unfold laws_szRefS.f
    rw [hw, if_neg hn]
end Go.Proofs.Ytcpljigliklgcaa.Q
end

section
namespace Go.Proofs.Ytcpljigliklgcaa.Q
open Go.RowKit Go.Proofs.YtcpljigliklgcaaW.PrintWords Go.Proofs.YtcpljigliklgcaaW.PrintLast
theorem isValue_f (n : Int) : impl_isValue.f n = some (inB n (-1000000) 1000000) := by
  unfold impl_isValue.f impl_within.f inB
  by_cases h : (-1000000 : Int) ≤ n <;> simp [h]
theorem mapOK_l0 (l : List S51) (hlen : l.length ≤ 4611686018427387904) (d : Nat) : ∀ i : Nat, i + d = l.length → (∀ j, j < i → entAt l j = true) → Ev (fun k => impl_MapOK.l0 k l l (l.length : Int) (i : Int)) (mapB l) := by
  induction d with
  | zero =>
    intro i hi hp
    have e : mapB l = decide ((l.length : Int) ≤ 12) := by
      unfold mapB
      rw [allR_true (fun j hj => hp j (by omega)), Bool.and_true]
      by_cases h : l.length ≤ 12
      · rw [decide_eq_true h, decide_eq_true (by omega)]
      · rw [decide_eq_false h, decide_eq_false (by omega)]
    rw [e]
    exact Ev.step (f := fun _ => some (decide ((l.length : Int) ≤ 12))) (fun k => by simp only [impl_MapOK.l0]; rw [if_neg (by omega)]) (Ev.now _)
  | succ d ih =>
    intro i hi hp
    have hw : wrap64 ((i : Int) + 1) = ((i + 1 : Nat) : Int) := by unfold wrap64; omega
    have hbad : entAt l i = false → mapB l = false := fun h => by
      unfold mapB
      rw [allR_false (j := i) (by omega) h, Bool.and_false]
    have hgo : entAt l i = true → Ev (fun k => impl_MapOK.l0 k l l (l.length : Int) ((i + 1 : Nat) : Int)) (mapB l) := fun h => ih (i + 1) (by omega) (fun j hj => by
      by_cases e : j = i
      · rw [e]; exact h
      · exact hp j (by omega))
    have E : entAt l i = (nameB (rd_T51 l (i : Int)).f0 && inB (rd_T51 l (i : Int)).f1 (-1000000) 1000000 && (i == 0 || sblt (rd_T51 l ((i : Int) - 1)).f0 (rd_T51 l (i : Int)).f0)) := rfl
    have c1 : (i : Int) < (l.length : Int) := by omega
    have c2 : (0 : Int) ≤ (i : Int) := by omega
    cases hN : nameB (rd_T51 l (i : Int)).f0 with
    | false =>
      rw [hbad (by rw [E, hN]; rfl)]
      refine Ev.step (f := fun _ => some false) (fun k => ?_) (Ev.now _)
      simp only [impl_MapOK.l0, impl_NameOK.f, hN, if_pos c1, if_pos c2, Option.bind_some, Bool.false_eq_true, if_false]
    | true =>
      cases hV : inB (rd_T51 l (i : Int)).f1 (-1000000) 1000000 with
      | false =>
        rw [hbad (by rw [E, hN, hV]; rfl)]
        refine Ev.step (f := fun _ => some false) (fun k => ?_) (Ev.now _)
        simp only [impl_MapOK.l0, impl_NameOK.f, isValue_f, hN, hV, if_pos c1, if_pos c2, Option.bind_some, Bool.false_eq_true, if_false, if_true]
      | true =>
        by_cases hz : i = 0
        · have hg := hgo (by rw [E, hN, hV]; simp [hz])
          refine Ev.step (fun k => ?_) hg
          have c3 : ¬ ((i : Int) > 0) := by omega
          simp only [impl_MapOK.l0, impl_NameOK.f, isValue_f, hN, hV, if_pos c1, if_pos c2, if_neg c3, Option.bind_some, if_true, hw]
        · have c3 : (i : Int) > 0 := by omega
          have hw2 : wrap64 ((i : Int) - 1) = (i : Int) - 1 := by unfold wrap64; omega
          have c4 : (0 : Int) ≤ (i : Int) - 1 := by omega
          have c5 : (i : Int) - 1 < (l.length : Int) := by omega
          have z : (i == 0) = false := by simp [hz]
          cases hS : sblt (rd_T51 l ((i : Int) - 1)).f0 (rd_T51 l (i : Int)).f0 with
          | false =>
            rw [hbad (by rw [E, hN, hV, hS, z]; rfl)]
            have hS1 : Op.bytesLess (rd_T51 l ((i : Int) - 1)).f0.toList (rd_T51 l (i : Int)).f0.toList = false := hS
            refine Ev.step (f := fun _ => some false) (fun k => ?_) (Ev.now _)
            simp only [impl_MapOK.l0, impl_NameOK.f, isValue_f, hN, hV, hS1, hw2, if_pos c1, if_pos c2, if_pos c3, if_pos c4, if_pos c5, Option.bind_some, if_true, Bool.false_eq_true, if_false]
          | true =>
            have hg := hgo (by rw [E, hN, hV, hS]; simp)
            have hS1 : Op.bytesLess (rd_T51 l ((i : Int) - 1)).f0.toList (rd_T51 l (i : Int)).f0.toList = true := hS
            refine Ev.step (fun k => ?_) hg
            simp only [impl_MapOK.l0, impl_NameOK.f, isValue_f, hN, hV, hS1, hw2, if_pos c1, if_pos c2, if_pos c3, if_pos c4, if_pos c5, Option.bind_some, if_true, hw]
theorem mapOK_ev (l : List S51) (hlen : l.length ≤ 4611686018427387904) : Ev (fun k => impl_MapOK.f k l) (mapB l) := mapOK_l0 l hlen l.length 0 (by omega) (fun j hj => absurd hj (Nat.not_lt_zero _))
end Go.Proofs.Ytcpljigliklgcaa.Q
end

section
namespace Go.Proofs.Ytcpljigliklgcaa.Q
open Go.RowKit Go.Proofs.YtcpljigliklgcaaW.PrintWords Go.Proofs.YtcpljigliklgcaaW.PrintLast
theorem l00Word_ev (s : ByteArray) : Ev (fun k => spec_l00Word.f k s) (nameB s) := Ev.of (fun k => spec_l00Word.mono s k) (l00Word_f s)
theorem l01In_is (a b c : Int) : spec_l01In.f a b c = some (inB a b c) := by
  unfold spec_l01In.f inB
  by_cases h : b ≤ a <;> simp [h]
end Go.Proofs.Ytcpljigliklgcaa.Q
end

section
namespace Go.Proofs.Ytcpljigliklgcaa.Q
open Go.RowKit Go.Proofs.YtcpljigliklgcaaW.PrintWords Go.Proofs.YtcpljigliklgcaaW.PrintLast
set_option linter.unusedVariables false
set_option linter.unusedSimpArgs false
theorem rdCommit {l : List S118} {i : Nat} (h : i < l.length) : rd_T118 l (i : Int) = l[i] := by
  simp [rd_T118, List.getD_eq_getElem?_getD, List.getElem?_eq_getElem h]
def commitB (n : Nat) (ps : List Int) (m : List S51) : Bool :=
  mapB m && match ps with
  | [] => n == 0
  | [a] => n != 0 && inB a 1 n
  | [a, b] => n != 0 && (inB a 1 n && (inB b 1 n && b != a))
  | _ => false
def storeB (l : List S118) : Bool := inB l.length 1 60 && allR (fun i => commitB i (rd_T118 l (i : Int)).f0 (rd_T118 l (i : Int)).f1) l.length
theorem nat_eq0 (n : Nat) : ((n : Int) == 0) = (n == 0) := by
  cases n with
  | zero => rfl
  | succ n =>
    have h1 : (((n + 1 : Nat) : Int) == 0) = false := by rw [beq_eq_false_iff_ne]; omega
    rw [h1]; rfl
theorem l03Commit_ev (st : List S118) (ps : List Int) (m : List S51) : Ev (fun k => spec_l03Commit.f k st ps m) (commitB st.length ps m) := by
  unfold commitB
  have w0 : wrap64 (0 + 1) = 1 := by unfold wrap64; omega
  have w1 : wrap64 (1 + 1) = 2 := by unfold wrap64; omega
  cases hm : mapB m with
  | false =>
    refine Ev.at_ (c := 1) (fun k => ?_)
    simp only [spec_l03Commit.f, spec_l01OK.f, Option.bind_some, hm, Bool.false_eq_true, if_false, spec_l03Commit.j0, if_true, Bool.false_and]
  | true =>
    match ps with
    | [] =>
      refine Ev.at_ (c := 2) (fun k => ?_)
      simp only [spec_l03Commit.f, spec_l01OK.f, Option.bind_some, hm, if_true, nat_eq0, List.length_nil, spec_l03Commit.j0, spec_l03Commit.l0]
      cases st.length == 0 <;> simp
    | [a] =>
      refine Ev.at_ (c := 4) (fun k => ?_)
      have r0 : rd [a] 0 = a := rfl
      simp only [spec_l03Commit.f, spec_l01OK.f, Option.bind_some, hm, if_true, nat_eq0, List.length_cons, List.length_nil, spec_l03Commit.j0, spec_l03Commit.l0, l01In_is, r0, w0, bne]
      cases st.length == 0 <;> cases inB a 1 st.length <;> simp
    | [a, b] =>
      refine Ev.at_ (c := 5) (fun k => ?_)
      have r0 : rd [a, b] 0 = a := rfl
      have r1 : rd [a, b] 1 = b := rfl
      simp only [spec_l03Commit.f, spec_l01OK.f, Option.bind_some, hm, if_true, nat_eq0, List.length_cons, List.length_nil, spec_l03Commit.j0, spec_l03Commit.l0, l01In_is, r0, r1, w0, w1, bne]
      by_cases hab : b = a
      · cases st.length == 0 <;> cases inB a 1 st.length <;> cases inB b 1 st.length <;> simp [hab]
      · cases st.length == 0 <;> cases inB a 1 st.length <;> cases inB b 1 st.length <;> simp [hab]
    | a :: b :: c :: r =>
      refine Ev.at_ (c := 1) (fun k => ?_)
      have h3 : (((a :: b :: c :: r).length : Nat) : Int) > 2 := by simp only [List.length_cons]; omega
      simp only [spec_l03Commit.f, spec_l01OK.f, Option.bind_some, hm, if_true, h3, spec_l03Commit.j0, Bool.and_false]
theorem isAt_ev (n : Nat) (hn : n ≤ 1048576) (ps : List Int) (m : List S51) (hm : m.length ≤ 1048576) : Ev (fun k => impl_Commit_isAt.f k ps m ((n : Int) + 1)) (commitB n ps m) := by
  unfold impl_Commit_isAt.f commitB
  refine Ev.bind (mapOK_ev m (by omega)) ?_
  have e1 : ((n : Int) + 1 == 1) = (n == 0) := by
    cases n with
    | zero => rfl
    | succ n =>
      have h1 : (((n + 1 : Nat) : Int) + 1 == 1) = false := by rw [beq_eq_false_iff_ne]; omega
      rw [h1]; rfl
  have l1 : (-9223372036854775807 : Int) ≤ (n : Int) + 1 := by omega
  have l2 : (n : Int) + 1 ≤ 9223372036854775807 := by omega
  have l3 : (n : Int) + 1 - 1 = (n : Int) := by omega
  cases mapB m with
  | false => simp only [Bool.false_eq_true, if_false, Bool.false_and]; exact Ev.now _
  | true =>
    simp only [if_true, Bool.true_and, areAllint_isAt.f, l1, l2, l3, e1]
    match ps with
    | [] =>
      refine Ev.at_ (c := 0) (fun k => ?_)
      cases hz : n == 0 <;> simp [hz]
    | [a] =>
      refine Ev.at_ (c := 0) (fun k => ?_)
      cases hz : n == 0 <;> cases h1 : inB a 1 n <;> simp [hz, h1, bne]
    | [a, b] =>
      refine Ev.at_ (c := 0) (fun k => ?_)
      have r0 : rd [a, b] 0 = a := rfl
      have r1 : rd [a, b] 1 = b := rfl
      by_cases hab : a = b
      · subst hab
        cases hz : n == 0 <;> simp [hz, r0, r1, bne]
      · have hba : ¬ b = a := fun h => hab h.symm
        cases hz : n == 0 <;> cases h1 : inB a 1 n <;> cases h2 : inB b 1 n <;> simp [hz, r0, r1, hab, hba, h1, h2, bne]
    | a :: b :: c :: r =>
      have h3 : (((a :: b :: c :: r).length : Nat) : Int) > 2 := by simp only [List.length_cons]; omega
      simp only [h3, if_true]
      exact Ev.now _
theorem l03OK_ev (l : List S118) : Ev (fun k => spec_l03OK.f k l) (storeB l) := by
  unfold spec_l03OK.f storeB
  simp only [l01In_is, Option.bind_some]
  cases hn : inB l.length 1 60 with
  | false => simp only [Bool.false_eq_true, if_false, Bool.false_and]; exact Ev.now _
  | true =>
    have h60 : l.length ≤ 60 := by
      unfold inB at hn
      simp only [Bool.and_eq_true, decide_eq_true_eq] at hn
      omega
    simp only [if_true, Bool.true_and]
    have h := ev_all_loop2 (L := fun k i => spec_l03OK.l0 k l i) (n := l.length) (p := fun i => commitB i (rd_T118 l (i : Int)).f0 (rd_T118 l (i : Int)).f1) (fin := true) 0 (fun i _ hi _ hp r hr => by
      have c1 : (i : Int) < (l.length : Int) := by omega
      have c2 : (i : Int) ≤ (l.length : Int) := by omega
      have hc := l03Commit_ev (l.take i) (rd_T118 l (i : Int)).f0 (rd_T118 l (i : Int)).f1
      rw [List.length_take, Nat.min_eq_left (by omega), hp] at hc
      refine Ev.succ (g := fun k => spec_l03OK.l0 k l (i : Int)) ?_
      simp only [spec_l03OK.l0, c1, c2, Int.natCast_nonneg, if_true, Int.toNat_natCast, wrap_i (show i < 4611686018427387904 by omega)]
      refine Ev.bind hc ?_
      simp only [if_true]
      exact hr) (fun i _ hi _ hp => by
      have c1 : (i : Int) < (l.length : Int) := by omega
      have c2 : (i : Int) ≤ (l.length : Int) := by omega
      have hc := l03Commit_ev (l.take i) (rd_T118 l (i : Int)).f0 (rd_T118 l (i : Int)).f1
      rw [List.length_take, Nat.min_eq_left (by omega), hp] at hc
      refine Ev.succ (g := fun k => spec_l03OK.l0 k l (i : Int)) ?_
      simp only [spec_l03OK.l0, c1, c2, Int.natCast_nonneg, if_true, Int.toNat_natCast]
      refine Ev.bind hc ?_
      simp only [Bool.false_eq_true, if_false]
      exact Ev.now _) (Ev.at_ (c := 1) (fun k => by
      simp only [spec_l03OK.l0]
      rw [if_neg (by omega)])) (Nat.zero_le _) (fun j hj => absurd hj (Nat.not_lt_zero _))
    rw [Bool.and_true] at h
    exact h
theorem areCommits_ev (l : List S118) (hl : l.length ≤ 1048576) (hf : ∀ x, x ∈ l → x.f1.length ≤ 1048576) : Ev (fun k => impl_areCommits.f k l) (allR (fun i => commitB i (rd_T118 l (i : Int)).f0 (rd_T118 l (i : Int)).f1) l.length && decide ((l.length : Int) ≤ 60)) := by
  exact ev_all_loop2 (L := fun k i => impl_areCommits.l0 k l l (l.length : Int) i) (n := l.length) (p := fun i => commitB i (rd_T118 l (i : Int)).f0 (rd_T118 l (i : Int)).f1) 0 (fun i _ hi _ hp r hr => by
    have c1 : (i : Int) < (l.length : Int) := by omega
    have w := wrap_2 (i := (i : Int)) (by omega) (by omega)
    have hc := isAt_ev i (by omega) (rd_T118 l (i : Int)).f0 (rd_T118 l (i : Int)).f1 (by rw [rdCommit hi]; exact hf _ (List.getElem_mem hi))
    rw [hp] at hc
    refine Ev.succ (g := fun k => impl_areCommits.l0 k l l (l.length : Int) (i : Int)) ?_
    simp only [impl_areCommits.l0, c1, Int.natCast_nonneg, if_true, w]
    refine Ev.bind hc ?_
    simp only [if_true]
    exact hr) (fun i _ hi _ hp => by
    have c1 : (i : Int) < (l.length : Int) := by omega
    have w := wrap_2 (i := (i : Int)) (by omega) (by omega)
    have hc := isAt_ev i (by omega) (rd_T118 l (i : Int)).f0 (rd_T118 l (i : Int)).f1 (by rw [rdCommit hi]; exact hf _ (List.getElem_mem hi))
    rw [hp] at hc
    refine Ev.succ (g := fun k => impl_areCommits.l0 k l l (l.length : Int) (i : Int)) ?_
    simp only [impl_areCommits.l0, c1, Int.natCast_nonneg, if_true, w]
    refine Ev.bind hc ?_
    simp only [Bool.false_eq_true, if_false]
    exact Ev.now _) (Ev.at_ (c := 1) (fun k => by
    simp only [impl_areCommits.l0]
    rw [if_neg (by omega)])) (Nat.zero_le _) (fun j hj => absurd hj (Nat.not_lt_zero _))
theorem storeOK_ev (l : List S118) (hl : l.length ≤ 1048576) (hf : ∀ x, x ∈ l → x.f1.length ≤ 1048576) : Ev (fun k => impl_StoreOK.f k l) (storeB l) := by
  unfold impl_StoreOK.f storeB
  by_cases h0 : (l.length : Int) > 0
  · have hi : inB l.length 1 60 = decide ((l.length : Int) ≤ 60) := by
      unfold inB
      rw [decide_eq_true (by omega), Bool.true_and]
    simp only [h0, if_true, impl_Commit_243.f, Option.bind_some]
    by_cases h4 : (l.length : Int) ≤ 4096
    · simp only [h4, decide_true, if_true]
      rw [hi, Bool.and_comm]
      exact Ev.bind (areCommits_ev l hl hf) (Ev.now _)
    · simp only [h4, decide_false, Bool.false_eq_true, if_false]
      rw [hi, decide_eq_false (by omega), Bool.false_and]
      exact Ev.now _
  · have hi : inB l.length 1 60 = false := by
      unfold inB
      rw [decide_eq_false (by omega), Bool.false_and]
    simp only [h0, if_false, hi, Bool.false_and]
    exact Ev.now _
end Go.Proofs.Ytcpljigliklgcaa.Q
end

section
namespace Go.Proofs.Ytcpljigliklgcaa.Q
open Go.RowKit Go.Proofs.YtcpljigliklgcaaW.PrintWords Go.Proofs.YtcpljigliklgcaaW.PrintLast
set_option linter.unusedVariables false
set_option linter.unusedSimpArgs false
theorem rdRef {l : List S178} {i : Nat} (h : i < l.length) : rd_T178 l (i : Int) = l[i] := by
  simp [rd_T178, List.getD_eq_getElem?_getD, List.getElem?_eq_getElem h]
theorem l04At_ev (l : List S178) (n : ByteArray) (hlen : l.length ≤ 1048576) : Ev (fun k => spec_l04At.f k l n) (placeI l n) := by
  refine ev_idx_loop (L := fun k i => spec_l04At.l0 k l n i) (q := isNm n) ?_ ?_ ?_
  · intro i hi hq k
    have hq2 : ¬ (l[i].f0.toList = n.toList) := by simpa [isNm] using hq
    have c1 : (i : Int) < (l.length : Int) := by omega
    simp only [spec_l04At.l0, rdRef hi, c1, hq2, if_true, if_false, Int.natCast_nonneg, wrap_i (show i < 4611686018427387904 by omega)]
  · intro i hi hq k
    have hq2 : l[i].f0.toList = n.toList := by simpa [isNm] using hq
    have c1 : (i : Int) < (l.length : Int) := by omega
    simp only [spec_l04At.l0, rdRef hi, c1, hq2, if_true, Int.natCast_nonneg]
  · intro k
    simp only [spec_l04At.l0]
    rw [if_neg (by omega)]
theorem placeI_self {l : List S178} {i : Nat} (hi : i < l.length) : (placeI l l[i].f0 = (i : Int)) ↔ placeI (l.take i) l[i].f0 < 0 := by
  have hself : isNm l[i].f0 l[i] = true := by simp [isNm]
  have e : l = l.take i ++ l[i] :: l.drop (i + 1) := by rw [← List.drop_eq_getElem_cons hi, List.take_append_drop]
  cases h : (l.take i).findIdx? (isNm l[i].f0) with
  | none =>
    have h1 : placeI (l.take i) l[i].f0 = -1 := by unfold placeI idxI; rw [h]
    have h0 := List.findIdx?_eq_none_iff.mp h
    have h2 : placeI l l[i].f0 = (i : Int) := idxI_some hi (fun j hj => by
      have hm : l[j] ∈ l.take i := List.mem_take_iff_getElem.mpr ⟨j, by omega, rfl⟩
      simpa using h0 _ hm) hself
    rw [h1, h2]
    simp
  | some j =>
    obtain ⟨hj, hp, hmin⟩ := List.findIdx?_eq_some_iff_getElem.mp h
    have hj2 : j < i := by rw [List.length_take] at hj; omega
    have h1 : placeI (l.take i) l[i].f0 = (j : Int) := by unfold placeI idxI; rw [h]
    have h2 : placeI l l[i].f0 = (j : Int) := idxI_some (by omega) (fun k hk => by
      have := hmin k hk
      simpa using this) (by simpa using hp)
    rw [h1, h2]
    constructor
    · intro h3
      omega
    · intro h3
      omega
def refAt (l : List S178) (i : Nat) : Bool := refB (rd_T178 l (i : Int)) && decide (placeI (l.take i) (rd_T178 l (i : Int)).f0 < 0)
theorem refsB_at (l : List S178) : refsB l = (decide (l.length ≤ 8) && allR (refAt l) l.length) := by
  unfold refsB refAt
  rw [allR_and, all_allR refB z178 l]
  rfl
theorem l04OK_ev (l : List S178) : Ev (fun k => spec_l04OK.f k l) (refsB l) := by
  by_cases h8 : l.length ≤ 8
  · have e : refsB l = (allR (refAt l) l.length && true) := by rw [refsB_at, decide_eq_true h8, Bool.true_and, Bool.and_true]
    rw [e]
    refine Ev.congr (f := fun k => spec_l04OK.l0 k l ((0 : Nat) : Int)) (fun k => by unfold spec_l04OK.f; rw [if_neg (by omega)]; rfl) ?_
    refine ev_all_loop2 (L := fun k i => spec_l04OK.l0 k l i) (p := refAt l) 0 ?_ ?_ (Ev.step (f := fun _ => some true) (fun k => by simp only [spec_l04OK.l0]; rw [if_neg (by omega)]) (Ev.now _)) (Nat.zero_le _) (fun j hj => absurd hj (Nat.not_lt_zero _))
    · intro i _ hi _ hp r hr
      have c1 : (i : Int) < (l.length : Int) := by omega
      have hw := wrap_i (show i < 4611686018427387904 by omega)
      unfold refAt at hp
      rw [rdRef hi] at hp
      simp only [Bool.and_eq_true, decide_eq_true_eq, refB] at hp
      obtain ⟨⟨⟨h1, h2⟩, h3⟩, h4⟩ := hp
      have h4' := (placeI_self hi).mpr h4
      refine Ev.succ (g := fun k => spec_l04OK.l0 k l (i : Int)) ?_
      simp only [spec_l04OK.l0, rdRef hi, c1, Int.natCast_nonneg, if_true]
      refine Ev.bind (h1 ▸ l00Word_ev _) ?_
      simp only [if_true, l01In_is, h2, Option.bind_some]
      refine Ev.bind (h4' ▸ l04At_ev l l[i].f0 (by omega)) ?_
      simp only [if_true, hw]
      cases h5 : l[i].f3 with
      | true =>
        rw [h5] at h3
        simp only [if_true, beq_iff_eq] at h3
        simp only [h3, if_true]
        exact hr
      | false =>
        rw [h5] at h3
        simp only [Bool.false_eq_true, if_false] at h3
        simp only [Bool.false_eq_true, if_false, h3, Option.bind_some, if_true]
        exact hr
    · intro i _ hi _ hp
      have c1 : (i : Int) < (l.length : Int) := by omega
      unfold refAt at hp
      rw [rdRef hi] at hp
      refine Ev.succ (g := fun k => spec_l04OK.l0 k l (i : Int)) ?_
      simp only [spec_l04OK.l0, rdRef hi, c1, Int.natCast_nonneg, if_true]
      refine Ev.bind (l00Word_ev _) ?_
      cases h1 : nameB l[i].f0 with
      | false => simp only [Bool.false_eq_true, if_false]; exact Ev.now _
      | true =>
        simp only [if_true, l01In_is, Option.bind_some]
        cases h2 : inB l[i].f2 1 1000000 with
        | false => simp only [Bool.false_eq_true, if_false]; exact Ev.now _
        | true =>
          simp only [if_true]
          refine Ev.bind (l04At_ev l l[i].f0 (by omega)) ?_
          by_cases h4 : placeI l l[i].f0 = (i : Int)
          · have h4' := (placeI_self hi).mp h4
            simp only [refB, h1, h2, Bool.true_and, decide_eq_true h4', Bool.and_true] at hp
            simp only [h4, if_true]
            cases h5 : l[i].f3 with
            | true =>
              rw [h5] at hp
              simp only [if_true, beq_eq_false_iff_ne] at hp
              simp only [if_true, hp, if_false]
              exact Ev.now _
            | false =>
              rw [h5] at hp
              simp only [Bool.false_eq_true, if_false] at hp
              simp only [Bool.false_eq_true, if_false, hp]
              exact Ev.now _
          · simp only [h4, if_false]
            exact Ev.now _
  · have e : refsB l = false := by unfold refsB; rw [decide_eq_false h8, Bool.false_and]
    rw [e]
    exact Ev.congr (f := fun _ => some false) (fun k => by unfold spec_l04OK.f; rw [if_pos (by omega)]) (Ev.now _)
theorem refsOK_ev (l : List S178) : Ev (fun k => impl_RefsOK.f k l) (refsB l) := by
  by_cases h8 : l.length ≤ 8
  · have n8 : ¬ ((l.length : Int) > 8) := by omega
    cases ha : l.all refB with
    | false =>
      have e : refsB l = false := by unfold refsB; rw [ha, Bool.false_and, Bool.and_false]
      rw [e]
      refine Ev.at_ (c := 1) (fun k => ?_)
      simp only [impl_RefsOK.f, n8, if_false, areAllRef_isRef.f, ha, Option.bind_some, impl_RefsOK.j0, Bool.not_false, if_true]
    | true =>
      have e : refsB l = (allR (fun j => decide (placeI (l.take j) (rd_T178 l (j : Int)).f0 < 0)) l.length && true) := by unfold refsB; rw [decide_eq_true h8, ha, Bool.true_and, Bool.true_and, Bool.and_true]
      rw [e]
      refine Ev.step (f := fun k => impl_RefsOK.l0 k l l (l.length : Int) 0) (fun k => ?_) ?_
      · simp only [impl_RefsOK.f, n8, if_false, areAllRef_isRef.f, ha, Option.bind_some, impl_RefsOK.j0, Bool.not_true, Bool.false_eq_true]
      · refine ev_all_loop (L := fun k i => impl_RefsOK.l0 k l l (l.length : Int) i) ?_ ?_ ?_
        · intro i hi _ hp
          refine ⟨1, 0, fun k => ?_⟩
          have c1 : (i : Int) < (l.length : Int) := by omega
          have c2 : (i : Int) ≤ (l.length : Int) := by omega
          have c3 : ¬ (placeI (l.take i) (rd_T178 l (i : Int)).f0 ≥ 0) := by simp only [decide_eq_true_eq] at hp; omega
          simp only [impl_RefsOK.l0, c1, c2, Int.natCast_nonneg, if_true, impl_place.f, Option.bind_some, Int.toNat_natCast, c3, if_false, wrap_i (show i < 4611686018427387904 by omega), Nat.add_zero]
        · intro i hi _ hp
          refine ⟨1, fun k => ?_⟩
          have c1 : (i : Int) < (l.length : Int) := by omega
          have c2 : (i : Int) ≤ (l.length : Int) := by omega
          have c3 : placeI (l.take i) (rd_T178 l (i : Int)).f0 ≥ 0 := by simp only [decide_eq_false_iff_not] at hp; omega
          simp only [impl_RefsOK.l0, c1, c2, Int.natCast_nonneg, if_true, impl_place.f, Option.bind_some, Int.toNat_natCast, c3]
        · refine Ev.at_ (c := 1) (fun k => ?_)
          simp only [impl_RefsOK.l0]
          rw [if_neg (by omega)]
  · have e : refsB l = false := by unfold refsB; rw [decide_eq_false h8, Bool.false_and]
    rw [e]
    refine Ev.at_ (c := 1) (fun k => ?_)
    unfold impl_RefsOK.f
    rw [if_pos (by omega)]
    simp only [impl_RefsOK.j0, if_true]
end Go.Proofs.Ytcpljigliklgcaa.Q
end

section
namespace Go.Proofs.Ytcpljigliklgcaa.Q
open Go.RowKit Go.Proofs.YtcpljigliklgcaaW.PrintWords Go.Proofs.YtcpljigliklgcaaW.PrintLast
set_option linter.unusedVariables false
set_option linter.unusedSimpArgs false
theorem szBase_ev (a : List S209) (b : List S211) (ha : a.length ≤ 9223372036854775807 ∧ ∀ x, x ∈ a → good209 x) (hb : b.length ≤ 9223372036854775807 ∧ ∀ x, x ∈ b → good211 x) (left : Int) (h0 : 0 ≤ left) (h1 : left ≤ 1048576) :
    ∃ r, Ev (fun k => laws_szBase.f k a b left) r ∧ r ≤ left ∧ (0 ≤ r → (a.length ≤ 1048576 ∧ ∀ x, x ∈ a → fitC x) ∧ b.length ≤ 1048576) := by
  obtain ⟨r, hr, hrl, hrs⟩ := szCommitS_ev a ha.1 ha.2 left h0 h1
  unfold laws_szBase.f
  by_cases hn : r < 0
  · exact ⟨-1, Ev.bind hr (by simp only [hn, if_true]; exact Ev.now _), by omega, by omega⟩
  · obtain ⟨r2, hr2, hrl2, hrs2⟩ := szRefS_ev b hb.1 hb.2 r (by omega) (by omega)
    by_cases hn2 : r2 < 0
    · exact ⟨-1, Ev.bind hr (by simp only [hn, if_false]; exact Ev.bind hr2 (by simp only [hn2, if_true]; exact Ev.now _)), by omega, by omega⟩
    · exact ⟨r2, Ev.bind hr (by simp only [hn, if_false]; exact Ev.bind hr2 (by simp only [hn2, if_false]; exact Ev.now _)), by omega, fun h => ⟨hrs (by omega), hrs2 h⟩⟩
theorem toBase_ev (a : List S209) (b : List S211) (ha : a.length ≤ 1048576) (hf : ∀ x, x ∈ a → fitC x) (hb : b.length ≤ 1048576) : Ev (fun k => laws_toBase.f k a b) (a.map cvCommit, b.map cvRef) := by
  unfold laws_toBase.f
  exact Ev.bind (toCommitS_ev a ha hf) (Ev.bind (toRefS_ev b hb) (Ev.now _))
theorem eqBase_ev (a : List S118) (b : List S178) (ha : a.length ≤ 1048576) (hf : ∀ x, x ∈ a → x.f0.length ≤ 1048576 ∧ x.f1.length ≤ 1048576) (hb : b.length ≤ 1048576) : Ev (fun k => laws_eqBase.f k a b a b) true := by
  unfold laws_eqBase.f
  refine Ev.bind (eqCommitS_ev a ha hf) ?_
  simp only [if_true]
  refine Ev.bind (eqRefS_ev b hb) ?_
  simp only [if_true]
  exact Ev.now _
def baseB (st : List S118) (rf : List S178) : Bool := storeB st && (refsB rf && rf.all (fun x => decide (x.f1 ≤ (st.length : Int))))
theorem refsB_few {l : List S178} (h : refsB l = true) : l.length ≤ 8 := by
  unfold refsB at h
  simp only [Bool.and_eq_true, decide_eq_true_eq] at h
  exact h.1
theorem l05OK_ev (st : List S118) (rf : List S178) : Ev (fun k => spec_l05OK.f k st rf) (baseB st rf) := by
  unfold spec_l05OK.f baseB
  refine Ev.bind (l03OK_ev st) ?_
  cases hs : storeB st with
  | false =>
    simp only [Bool.false_eq_true, if_false, Bool.false_and]
    exact Ev.at_ (c := 1) (fun k => by simp only [spec_l05OK.j0, if_true])
  | true =>
    simp only [if_true, Bool.true_and]
    refine Ev.bind (l04OK_ev rf) ?_
    cases hr : refsB rf with
    | false =>
      simp only [Bool.false_and, Bool.not_false]
      exact Ev.at_ (c := 1) (fun k => by simp only [spec_l05OK.j0, if_true])
    | true =>
      have h8 := refsB_few hr
      simp only [Bool.true_and, Bool.not_true]
      refine Ev.succ ?_
      simp only [spec_l05OK.j0, Bool.false_eq_true, if_false]
      have h := ev_all_loop (L := fun k i => spec_l05OK.l0 k i st rf) (n := rf.length) (p := fun i => decide ((rf.getD i z178).f1 ≤ (st.length : Int))) (fin := true) (fun i hi _ hp => by
        have c1 : (i : Int) < (rf.length : Int) := by omega
        have e1 : rd_T178 rf (i : Int) = rf.getD i z178 := rfl
        rw [decide_eq_true_eq] at hp
        have c2 : ¬ (rf.getD i z178).f1 > (st.length : Int) := by omega
        exact ⟨1, 0, fun k => by simp only [spec_l05OK.l0, c1, Int.natCast_nonneg, if_true, e1, c2, if_false, wrap_i (show i < 4611686018427387904 by omega), Nat.add_zero]⟩) (fun i hi _ hp => by
        have c1 : (i : Int) < (rf.length : Int) := by omega
        have e1 : rd_T178 rf (i : Int) = rf.getD i z178 := rfl
        rw [decide_eq_false_iff_not] at hp
        have c2 : (rf.getD i z178).f1 > (st.length : Int) := by omega
        exact ⟨1, fun k => by simp only [spec_l05OK.l0, c1, Int.natCast_nonneg, if_true, e1, c2]⟩) (Ev.at_ (c := 1) (fun k => by
        simp only [spec_l05OK.l0]
        rw [if_neg (by omega)]))
      rw [Bool.and_true] at h
      rw [all_allR (fun x => decide (x.f1 ≤ (st.length : Int))) z178 rf]
      exact h
theorem baseOK_ev (st : List S118) (rf : List S178) (hs : st.length ≤ 1048576) (hf : ∀ x, x ∈ st → x.f1.length ≤ 1048576) : Ev (fun k => impl_BaseOK.f k st rf) (baseB st rf) := by
  unfold impl_BaseOK.f baseB
  refine Ev.bind (storeOK_ev st hs hf) ?_
  cases storeB st with
  | false => simp only [Bool.false_eq_true, if_false, Bool.false_and]; exact Ev.now _
  | true =>
    simp only [if_true, Bool.true_and]
    refine Ev.bind (refsOK_ev rf) ?_
    cases refsB rf with
    | false => simp only [Bool.false_eq_true, if_false, Bool.false_and]; exact Ev.now _
    | true => simp only [if_true, Bool.true_and, areAllRef_baseOK.f, Option.bind_some]; exact Ev.now _
end Go.Proofs.Ytcpljigliklgcaa.Q
end

section
namespace Go.Proofs.Ytcpljigliklgcaa.Q
open Go.RowKit Go.Proofs.YtcpljigliklgcaaW.PrintWords Go.Proofs.YtcpljigliklgcaaW.PrintLast
set_option linter.unusedVariables false
set_option linter.unusedSimpArgs false
theorem szSnap_is (n : ByteArray) (c left : Int) : ∃ r, laws_szSnap.f n c left = some r := by
  unfold laws_szSnap.f
  split <;> exact ⟨_, rfl⟩
def snapB (st : List S118) (rf : List S178) (n : ByteArray) (c : Int) : Bool := baseB st rf && (nameB n && inB c 1 st.length)
theorem l10Snap_ev (st : List S118) (rf : List S178) (n : ByteArray) (c : Int) : Ev (fun k => spec_l10Snap.f k st rf n c) (nameB n && inB c 1 st.length) := by
  unfold spec_l10Snap.f
  refine Ev.bind (l00Word_ev n) ?_
  cases nameB n with
  | false => simp only [Bool.false_eq_true, if_false, Bool.false_and]; exact Ev.now _
  | true => simp only [if_true, Bool.true_and, l01In_is, Option.bind_some]; exact Ev.now _
theorem within_is (a b c : Int) : impl_within.f a b c = some (inB a b c) := by
  unfold impl_within.f inB
  by_cases h : b ≤ a <;> simp [h]
theorem snapOK_impl (st : List S118) (rf : List S178) (n : ByteArray) (c : Int) (hs : st.length ≤ 1048576) (hf : ∀ x, x ∈ st → x.f1.length ≤ 1048576) : Ev (fun k => impl_SnapOK.f k st rf n c) (snapB st rf n c) := by
  unfold impl_SnapOK.f snapB
  refine Ev.bind (baseOK_ev st rf hs hf) ?_
  cases baseB st rf with
  | false => simp only [Bool.false_eq_true, if_false, Bool.false_and]; exact Ev.now _
  | true =>
    simp only [if_true, Bool.true_and, impl_NameOK.f, Option.bind_some]
    cases nameB n with
    | false => simp only [Bool.false_eq_true, if_false, Bool.false_and]; exact Ev.now _
    | true => simp only [if_true, Bool.true_and, within_is, Option.bind_some]; exact Ev.now _
end Go.Proofs.Ytcpljigliklgcaa.Q
end

section
namespace Go.Proofs.Ytcpljigliklgcaa.Q
open Go.RowKit Go.Proofs.YtcpljigliklgcaaW.PrintWords Go.Proofs.YtcpljigliklgcaaW.PrintLast Go.Proofs.YtcpljigliklgcaaW.PrintMore
attribute [local go_sem] max2_int min2_int max_two min_two max_three min_three max_four min_four   -- for this text's walks alone
set_option linter.unusedVariables false
set_option linter.unusedSimpArgs false
attribute [local go_sem] bin_leq bin_gtr bin_geq
def RiseP (l : List S51) : Prop := l.Pairwise (fun a b => sblt a.f0 b.f0 = true)
instance (l : List S51) : Decidable (RiseP l) := by unfold RiseP; infer_instance
end Go.Proofs.Ytcpljigliklgcaa.Q
end

section
namespace Go.Proofs.Ytcpljigliklgcaa.Q
open Go.RowKit Go.Proofs.YtcpljigliklgcaaW.PrintWords Go.Proofs.YtcpljigliklgcaaW.PrintLast Go.Proofs.YtcpljigliklgcaaW.PrintMore
attribute [local go_sem] max2_int min2_int max_two min_two max_three min_three max_four min_four   -- for this text's walks alone
set_option linter.unusedVariables false
set_option linter.unusedSimpArgs false
attribute [local go_sem] bin_leq bin_gtr bin_geq
theorem eqA51 (d : Nat) (w : World) (x0 y0 : ByteArray) (x1 y1 : Int) :
    (Op.equalIn (d + 2) 51 (.agg #[.string x0, .int .i64 x1]) (.agg #[.string y0, .int .i64 y1])).run Try.prog w = .ok (x0.toList == y0.toList && (x1 == y1)) w := by
  refine eqA_of Try.underlying51 (by kernel_rfl) ?_
  refine eqf_cons (by rfl) (by go_simp; rfl) (by go_simp; rfl) (by go_simp) ?_
  exact eqf_last (by rfl) (by go_simp; rfl) (by go_simp; rfl) (by go_simp)
end Go.Proofs.Ytcpljigliklgcaa.Q
end

section
namespace Go.Proofs.Ytcpljigliklgcaa.Q
open Go.RowKit Go.Proofs.YtcpljigliklgcaaW.PrintWords Go.Proofs.YtcpljigliklgcaaW.PrintLast
set_option linter.unusedVariables false
set_option linter.unusedSimpArgs false
theorem rdEntry {l : List S51} {i : Nat} (h : i < l.length) : rd_T51 l (i : Int) = l[i] := by
  simp [rd_T51, List.getD_eq_getElem?_getD, List.getElem?_eq_getElem h]
end Go.Proofs.Ytcpljigliklgcaa.Q
end

section
namespace Go.Proofs.Ytcpljigliklgcaa.Q
open Go.RowKit Go.Proofs.YtcpljigliklgcaaW.PrintWords Go.Proofs.YtcpljigliklgcaaW.PrintLast
set_option linter.unusedVariables false
set_option linter.unusedSimpArgs false
theorem mapB_len {l : List S51} (h : mapB l = true) : l.length ≤ 12 := by
  unfold mapB at h
  simp only [Bool.and_eq_true, decide_eq_true_eq] at h
  exact h.1
end Go.Proofs.Ytcpljigliklgcaa.Q
end

section
namespace Go.Proofs.Ytcpljigliklgcaa.Q
open Go.RowKit Go.Proofs.YtcpljigliklgcaaW.PrintWords Go.Proofs.YtcpljigliklgcaaW.PrintLast
set_option linter.unusedVariables false
set_option linter.unusedSimpArgs false
theorem scan_loop (l : List S51) (a b : ByteArray) (hl : l.length ≤ 1000000) : ∀ (d i : Nat), i + d = l.length → Ev (fun k => spec_Scan.l0 k l a b (keptE (goneE a b) l i) (i : Int)) (l.filter (fun x => !goneE a b x), 0) := by
  intro d
  induction d with
  | zero =>
    intro i hi
    obtain rfl : i = l.length := by omega
    refine Ev.at_ (c := 1) (fun k => ?_)
    simp only [spec_Scan.l0]
    rw [if_neg (by omega), keptE_all]
  | succ d ih =>
    intro i hi
    have hil : i < l.length := by omega
    have c1 : (i : Int) < (l.length : Int) := by omega
    have e1 : rd_T51 l (i : Int) = l[i] := rdEntry hil
    have hn := ih (i + 1) (by omega)
    have hlt : (keptE (goneE a b) l i).length < 5864062014805 := by
      have := keptE_len (goneE a b) l i
      omega
    have w := wrap_i (show i < 4611686018427387904 by omega)
    rw [keptE_next _ l i hil] at hn
    refine Ev.succ ?_
    simp only [spec_Scan.l0, c1, if_true, Int.natCast_nonneg, e1, w]
    cases h1 : Op.bytesLess l[i].f0.toList a.toList with
    | true =>
      have hg : goneE a b l[i] = true := by unfold goneE sblt; rw [h1]; rfl
      rw [if_pos hg, List.append_nil] at hn
      simp only [if_true]
      exact hn
    | false =>
      simp only [Bool.false_eq_true, if_false]
      by_cases h2 : b.toList = ([] : List UInt8)
      · have hg : goneE a b l[i] = false := by unfold goneE sblt; rw [h1, h2]; rfl
        rw [if_neg (by rw [hg]; simp)] at hn
        simp only [h2, if_true, hlt]
        exact hn
      · have h3 : (b.toList == ([] : List UInt8)) = false := beq_eq_false_iff_ne.mpr h2
        simp only [h2, if_false]
        cases h4 : Op.bytesLess l[i].f0.toList b.toList with
        | true =>
          have hg : goneE a b l[i] = false := by unfold goneE sblt; rw [h1, h3, h4]; rfl
          rw [if_neg (by rw [hg]; simp)] at hn
          simp only [if_true, hlt]
          exact hn
        | false =>
          have hg : goneE a b l[i] = true := by unfold goneE sblt; rw [h1, h3, h4]; rfl
          rw [if_pos hg, List.append_nil] at hn
          simp only [Bool.false_eq_true, if_false]
          exact hn
end Go.Proofs.Ytcpljigliklgcaa.Q
end

section
namespace Go.Proofs.Ytcpljigliklgcaa.Q
open Go.RowKit Go.Proofs.YtcpljigliklgcaaW.PrintWords Go.Proofs.YtcpljigliklgcaaW.PrintLast
set_option linter.unusedVariables false
set_option linter.unusedSimpArgs false
theorem markText_l0 : ∀ (d : Nat) (n : Int) (s : ByteArray), 0 ≤ n → n ≤ 9223372036854775807 → n < 10 ^ d → s.size + d ≤ 1000 → ∃ r, Ev (fun k => laws_markText.l0 k n s) r := by
  intro d
  induction d with
  | zero =>
    intro n s h0 hn9 h1 hs
    have hn : ¬ n > 0 := by simp at h1; omega
    have hz : 1 + s.size ≤ 9223372036854775807 := by omega
    exact ⟨_, Ev.at_ (c := 1) (fun k => by simp only [laws_markText.l0, hn, if_false, hz, if_true]; rfl)⟩
  | succ d ih =>
    intro n s h0 hn9 h1 hs
    by_cases hn : n > 0
    · have e1 : Int.tdiv n 10 = n / 10 := Int.tdiv_eq_ediv_of_nonneg h0
      have h2 : n / 10 < 10 ^ d := by
        rw [Int.pow_succ] at h1
        omega
      have hw : wrap64 (n / 10) = n / 10 := by unfold wrap64; omega
      have hz : (strOfNums [(wrap64 (48 + (Int.tmod n 10))) % 256]).size = 1 := rfl
      have hz2 : 1 + s.size ≤ 9223372036854775807 := by omega
      obtain ⟨r, hr⟩ := ih (n / 10) (strOfNums [(wrap64 (48 + (Int.tmod n 10))) % 256] ++ s) (by omega) (by omega) h2 (by rw [ByteArray.size_append, hz]; omega)
      refine ⟨r, Ev.step (fun k => ?_) hr⟩
      simp only [laws_markText.l0, hn, if_true, Option.bind_some, hz, hz2, e1, hw]
    · have hz : 1 + s.size ≤ 9223372036854775807 := by omega
      exact ⟨_, Ev.at_ (c := 1) (fun k => by simp only [laws_markText.l0, hn, if_false, hz, if_true]; rfl)⟩
theorem markTexts : ∃ mt : Int → ByteArray, ∀ n, 0 ≤ n → n ≤ 1000000000 → Ev (fun k => laws_markText.f k n) (mt n) := by
  have h : ∀ n : Int, ∃ s, 0 ≤ n → n ≤ 1000000000 → Ev (fun k => laws_markText.f k n) s := by
    intro n
    by_cases h0 : 0 ≤ n ∧ n ≤ 1000000000
    · by_cases h1 : n ≤ 0
      · exact ⟨_, fun _ _ => Ev.at_ (c := 0) (fun k => by unfold laws_markText.f; rw [if_pos h1])⟩
      · obtain ⟨s, hs⟩ := markText_l0 10 n (⟨#[]⟩ : ByteArray) h0.1 (by omega) (by omega) (by decide)
        exact ⟨s, fun _ _ => Ev.congr (fun k => by unfold laws_markText.f; rw [if_neg h1]) hs⟩
    · exact ⟨ByteArray.empty, fun a b => absurd ⟨a, b⟩ h0⟩
  exact ⟨fun n => Classical.choose (h n), fun n => Classical.choose_spec (h n)⟩
theorem ev_mark_loop {α : Type} {L : Nat → List α → Int → Int → Option (Int × List α)} {H : Nat → List α → Int → Int → Option Int} {mk : α → Int → α} {c : Int} (hc : 0 ≤ c)
    (stepL : ∀ (l : List α) (m : Int) (i : Nat) (hi : i < l.length), l.length ≤ 1048576 → 0 ≤ m → m ≤ 900000000 → ∀ r, Ev (fun k => L k (l.set i (mk l[i] m)) (m + c) ((i + 1 : Nat) : Int)) r → Ev (fun k => L k l m (i : Int)) r)
    (stepH : ∀ (l : List α) (m : Int) (i : Nat) (hi : i < l.length) (y : α), l[i] = mk y m → l.length ≤ 1048576 → 0 ≤ m → m ≤ 900000000 → ∀ r, Ev (fun k => H k l (m + c) ((i + 1 : Nat) : Int)) r → Ev (fun k => H k l m (i : Int)) r)
    (doneL : ∀ (l : List α) (m : Int) k, L (k + 1) l m (l.length : Int) = some (m, l)) (doneH : ∀ (l : List α) (m : Int) k, H (k + 1) l m (l.length : Int) = some m)
    (l : List α) (m : Int) (hl : l.length ≤ 1048576) (h0 : 0 ≤ m) (hm : m + c * l.length ≤ 900000000) :
    ∃ l', l'.length = l.length ∧ Ev (fun k => L k l m 0) (m + c * l.length, l') ∧ Ev (fun k => H k l' m 0) (m + c * l.length) := by
  have key : ∀ (d i : Nat) (l : List α) (m : Int), i + d = l.length → l.length ≤ 1048576 → 0 ≤ m → m + c * d ≤ 900000000 →
      ∃ l', l'.length = l.length ∧ l'.take i = l.take i ∧ Ev (fun k => L k l m (i : Int)) (m + c * d, l') ∧ Ev (fun k => H k l' m (i : Int)) (m + c * d) := by
    intro d
    induction d with
    | zero =>
      intro i l m hi hl h0 hm
      obtain rfl : i = l.length := by omega
      refine ⟨l, rfl, rfl, ?_, ?_⟩
      · simp only [Int.natCast_zero, Int.mul_zero, Int.add_zero]
        exact Ev.at_ (c := 1) (doneL l m)
      · simp only [Int.natCast_zero, Int.mul_zero, Int.add_zero]
        exact Ev.at_ (c := 1) (doneH l m)
    | succ d ih =>
      intro i l m hi hl h0 hm
      have hil : i < l.length := by omega
      have e : m + c + c * (d : Int) = m + c * ((d + 1 : Nat) : Int) := by
        rw [Int.natCast_add, Int.natCast_one, Int.mul_add, Int.mul_one]
        omega
      have hcd : 0 ≤ c * (d : Int) := Int.mul_nonneg hc (Int.natCast_nonneg d)
      obtain ⟨l', hl', ht, hL, hH⟩ := ih (i + 1) (l.set i (mk l[i] m)) (m + c) (by rw [List.length_set]; omega) (by rw [List.length_set]; omega) (by omega) (by omega)
      rw [List.length_set] at hl'
      rw [e] at hL hH
      have hg : l'[i]'(by omega) = mk l[i] m := by
        have h1 : (l'.take (i + 1))[i]'(by rw [List.length_take]; omega) = ((l.set i (mk l[i] m)).take (i + 1))[i]'(by rw [List.length_take, List.length_set]; omega) := by simp only [ht]
        simpa using h1
      refine ⟨l', hl', ?_, stepL l m i hil hl h0 (by omega) _ hL, stepH l' m i (by omega) l[i] hg (by omega) h0 (by omega) _ hH⟩
      have h2 := congrArg (List.take i) ht
      rw [List.take_take, List.take_take, Nat.min_eq_left (by omega)] at h2
      rw [h2, List.take_set_of_le (Nat.le_refl _)]
  obtain ⟨l', h1, _, h3, h4⟩ := key l.length 0 l m (by omega) hl h0 hm
  exact ⟨l', h1, h3, h4⟩
end Go.Proofs.Ytcpljigliklgcaa.Q
end

section
namespace Go.Proofs.Ytcpljigliklgcaa.Q
open Go.RowKit Go.Proofs.YtcpljigliklgcaaW.PrintWords Go.Proofs.YtcpljigliklgcaaW.PrintLast
set_option linter.unusedVariables false
set_option linter.unusedSimpArgs false
theorem markEntryS_ev (l : List S51) (m : Int) (hl : l.length ≤ 1048576) (h0 : 0 ≤ m) (hm : m + 2 * l.length ≤ 900000000) :
    ∃ l', l'.length = l.length ∧ Ev (fun k => laws_markEntryS.f k l m) (m + 2 * l.length, l') ∧ Ev (fun k => laws_heldEntryS.f k l' m) (m + 2 * l.length) := by
  obtain ⟨mt, hmt⟩ := markTexts
  have rd0 : ∀ (l : List S51) (i : Nat) (h : i < l.length), rd_T51 l (i : Int) = l[i] := fun l i h => by simp [rd_T51, List.getD_eq_getElem?_getD, List.getElem?_eq_getElem h]
  have rd1 : ∀ (l : List S51) (i : Nat) (v : S51) (h : i < l.length), rd_T51 (l.set i v) (i : Int) = v := fun l i v h => by rw [rd0 _ _ (by rw [List.length_set]; exact h)]; simp
  refine ev_mark_loop (L := laws_markEntryS.l0) (H := laws_heldEntryS.l0) (mk := fun x m => ⟨mt (m), m + 1⟩) (c := 2) (by omega) ?_ ?_ ?_ ?_ l m hl h0 hm
  · intro l m i hi hl h0 hm r hr
    have c1 : (i : Int) < (l.length : Int) := by omega
    have w := wrap_i (show i < 4611686018427387904 by omega)
    have w1 : wrap64 (m + 1) = m + 1 := by unfold wrap64; omega
    have w2 : wrap64 (m + 1 + 1) = m + 2 := by unfold wrap64; omega
    refine Ev.succ (g := fun k => laws_markEntryS.l0 k l m (i : Int)) ?_
    simp only [laws_markEntryS.l0, c1, if_true, Int.natCast_nonneg, Option.bind_some, Int.toNat_natCast, rd0 l i hi, rd1 l i _ hi, List.set_set, w, w1, w2]
    refine Ev.bind (hmt (m) (by omega) (by omega)) ?_
    (try simp only [if_true, rd0 l i hi, rd1 l i _ hi, List.set_set, Option.bind_some, w1, w2, bne_self_eq_false, Bool.false_eq_true, if_false])
    exact hr
  · intro l m i hi y hy hl h0 hm r hr
    have c1 : (i : Int) < (l.length : Int) := by omega
    have w := wrap_i (show i < 4611686018427387904 by omega)
    have w1 : wrap64 (m + 1) = m + 1 := by unfold wrap64; omega
    have w2 : wrap64 (m + 1 + 1) = m + 2 := by unfold wrap64; omega
    refine Ev.succ (g := fun k => laws_heldEntryS.l0 k l m (i : Int)) ?_
    simp only [laws_heldEntryS.l0, c1, if_true, Int.natCast_nonneg, rd0 l i hi, hy, w, w1, w2, bne_self_eq_false, Bool.false_eq_true, if_false]
    refine Ev.bind (hmt (m) (by omega) (by omega)) ?_
    (try simp only [if_true, rd0 l i hi, rd1 l i _ hi, List.set_set, Option.bind_some, w1, w2, bne_self_eq_false, Bool.false_eq_true, if_false])
    exact hr
  · intro l m k
    simp only [laws_markEntryS.l0]
    rw [if_neg (by omega)]
  · intro l m k
    simp only [laws_heldEntryS.l0]
    rw [if_neg (by omega)]
end Go.Proofs.Ytcpljigliklgcaa.Q
end

section
namespace Go.Proofs.Ytcpljigliklgcaa.Q
open Go.RowKit Go.Proofs.YtcpljigliklgcaaW.PrintWords Go.Proofs.YtcpljigliklgcaaW.PrintLast Go.Proofs.YtcpljigliklgcaaW.PrintMore
attribute [local go_sem] max2_int min2_int max_two min_two max_three min_three max_four min_four   -- for this text's walks alone
set_option linter.unusedVariables false
set_option linter.unusedSimpArgs false
attribute [local go_sem] bin_leq bin_gtr bin_geq
def laws_heldIntS.l0 : Nat → List Int → Int → Int → Option (Int)
  | 0, _, _, _ => none
  | k + 1, x0, x1, x5 => if x5 < (x0.length : Int) then (if 0 ≤ x5 then (if (rd x0 x5) = x1 then (laws_heldIntS.l0 k x0 (wrap64 (x1 + 1)) (wrap64 (x5 + 1))) else (some (-1))) else (none)) else (some x1)
def laws_heldIntS.f (k : Nat) (l0 : List Int) (a1 : Int) : Option (Int) := laws_heldIntS.l0 k l0 a1 0
end Go.Proofs.Ytcpljigliklgcaa.Q
end

section
namespace Go.Proofs.Ytcpljigliklgcaa.Q
open Go.RowKit Go.Proofs.YtcpljigliklgcaaW.PrintWords Go.Proofs.YtcpljigliklgcaaW.PrintLast
set_option linter.unusedVariables false
set_option linter.unusedSimpArgs false
theorem markIntS_ev (l : List Int) (m : Int) (hl : l.length ≤ 1048576) (h0 : 0 ≤ m) (hm : m + 1 * l.length ≤ 900000000) :
    ∃ l', l'.length = l.length ∧ Ev (fun k => laws_markIntS.f k l m) (m + 1 * l.length, l') ∧ Ev (fun k => laws_heldIntS.f k l' m) (m + 1 * l.length) := by
  have rd0 : ∀ (l : List Int) (i : Nat) (h : i < l.length), rd l (i : Int) = l[i] := fun l i h => by simp [rd, List.getD_eq_getElem?_getD, List.getElem?_eq_getElem h]
  refine ev_mark_loop (L := laws_markIntS.l0) (H := laws_heldIntS.l0) (mk := fun x m => m) (c := 1) (by omega) ?_ ?_ ?_ ?_ l m hl h0 hm
  · intro l m i hi hl h0 hm r hr
    have c1 : (i : Int) < (l.length : Int) := by omega
    have w := wrap_i (show i < 4611686018427387904 by omega)
    have w1 : wrap64 (m + 1) = m + 1 := by unfold wrap64; omega
    refine Ev.succ (g := fun k => laws_markIntS.l0 k l m (i : Int)) ?_
    simp only [laws_markIntS.l0, c1, if_true, Int.natCast_nonneg, Int.toNat_natCast, w, w1]
    exact hr
  · intro l m i hi y hy hl h0 hm r hr
    have c1 : (i : Int) < (l.length : Int) := by omega
    have w := wrap_i (show i < 4611686018427387904 by omega)
    have w1 : wrap64 (m + 1) = m + 1 := by unfold wrap64; omega
    refine Ev.succ (g := fun k => laws_heldIntS.l0 k l m (i : Int)) ?_
    simp only [laws_heldIntS.l0, c1, if_true, Int.natCast_nonneg, rd0 l i hi, hy, w, w1]
    exact hr
  · intro l m k
    simp only [laws_markIntS.l0]
    rw [if_neg (by omega)]
  · intro l m k
    simp only [laws_heldIntS.l0]
    rw [if_neg (by omega)]
end Go.Proofs.Ytcpljigliklgcaa.Q
end

section
namespace Go.Proofs.Ytcpljigliklgcaa.Q
open Go.RowKit Go.Proofs.YtcpljigliklgcaaW.PrintWords Go.Proofs.YtcpljigliklgcaaW.PrintLast
set_option linter.unusedVariables false
set_option linter.unusedSimpArgs false
def wC (x : S118) : Nat := x.f0.length + 2 * x.f1.length
def wCs (l : List S118) : Nat := (l.map wC).sum
theorem markCommitS_ev : ∀ (l : List S118) (m : Int), (∀ x, x ∈ l → x.f0.length ≤ 1048576 ∧ x.f1.length ≤ 1048576) → 0 ≤ m → m + wCs l ≤ 900000000 → Ev (fun k => laws_markCommitS.f k l m) (m + wCs l)
  | [], m, _, _, _ => by
    have e : m + (wCs [] : Int) = m := by simp [wCs]
    rw [e]
    exact Ev.at_ (c := 0) (fun k => rfl)
  | x :: l, m, hf, h0, hm => by
    have e : wCs (x :: l) = wC x + wCs l := by simp [wCs]
    have hx := hf x List.mem_cons_self
    rw [e] at hm ⊢
    unfold wC at hm
    obtain ⟨l1, _, h1, _⟩ := markIntS_ev x.f0 m hx.1 h0 (by omega)
    obtain ⟨l2, _, h2, _⟩ := markEntryS_ev x.f1 (m + 1 * x.f0.length) hx.2 (by omega) (by omega)
    have ih := markCommitS_ev l (m + 1 * x.f0.length + 2 * x.f1.length) (fun y hy => hf y (List.mem_cons_of_mem _ hy)) (by omega) (by omega)
    have e2 : m + 1 * (x.f0.length : Int) + 2 * (x.f1.length : Int) + (wCs l : Int) = m + ((wC x + wCs l : Nat) : Int) := by unfold wC; omega
    rw [e2] at ih
    exact Ev.bind h1 (Ev.bind h2 ih)
theorem Ev.uniq {α : Type} {g : Nat → Option α} {r s : α} (h : Ev g r) (k : Ev g s) : r = s := by
  obtain ⟨K, h⟩ := h
  obtain ⟨M, k⟩ := k
  have h1 := h (K + M) (by omega)
  rw [k (K + M) (by omega)] at h1
  exact (Option.some.inj h1).symm
theorem szEntryS_w (l : List S125) (hl : l.length ≤ 9223372036854775807) (hg : ∀ x, x ∈ l → good125 x) (left r : Int) (h0 : 0 ≤ left) (h1 : left ≤ 1048576) (h : Ev (fun k => laws_szEntryS.f k l left) r) (hr : 0 ≤ r) : r ≤ left - (l.length : Int) := by
  have hw : wrap64 (left - (l.length : Int)) = left - (l.length : Int) := by unfold wrap64; omega
  by_cases hn : left - (l.length : Int) < 0
  · have h2 : Ev (fun k => laws_szEntryS.f k l left) (-1) := Ev.congr (f := fun _ => some (-1)) (fun k => by unfold laws_szEntryS.f; rw [hw, if_pos hn]) (Ev.now _)
    have := Ev.uniq h h2
    omega
  · obtain ⟨r2, hr2, hrl⟩ := ev_sz_loop (L := laws_szEntryS.l0) (g := fun _ x left => laws_szEntry.f x.f0 x.f1 left) (z := z125) (fun _ _ _ _ => rfl) l (by omega) (fun x hx left h0 h1 => by
      have hsz : x.f0.size ≤ 9223372036854775807 := (hg x hx).1
      have hw2 : wrap64 (left - (x.f0.size : Int)) = left - (x.f0.size : Int) := by unfold wrap64; omega
      by_cases h2 : left - (x.f0.size : Int) < 0
      · refine ⟨-1, Ev.congr (f := fun _ => some (-1)) (fun k => ?_) (Ev.now _), by omega⟩
        unfold laws_szEntry.f
        rw [hw2, if_pos h2]
      · refine ⟨left - (x.f0.size : Int), Ev.congr (f := fun _ => some (left - (x.f0.size : Int))) (fun k => ?_) (Ev.now _), by omega⟩
        unfold laws_szEntry.f
        rw [hw2, if_neg h2]) (left - (l.length : Int)) (by omega) (by omega)
    have h2 : Ev (fun k => laws_szEntryS.f k l left) r2 := Ev.congr (f := fun k => laws_szEntryS.l0 k l (left - (l.length : Int)) 0) (fun k => by unfold laws_szEntryS.f; rw [hw, if_neg hn]) hr2
    have := Ev.uniq h h2
    omega
theorem szCommit_w (x : S209) (g : good209 x) (left r : Int) (h0 : 0 ≤ left) (h1 : left ≤ 1048576) (h : Ev (fun k => laws_szCommit.f k x.f0 x.f1 left) r) (hr : 0 ≤ r) : r ≤ left - (x.f0.length + x.f1.length : Nat) := by
  have hw : wrap64 (left - (x.f0.length : Int)) = left - (x.f0.length : Int) := by
    have := g.1.1
    unfold wrap64; omega
  by_cases hn : left - (x.f0.length : Int) < 0
  · have e : laws_szIntS.f x.f0 left = some (-1) := by unfold laws_szIntS.f; rw [hw, if_pos hn]
    have h2 : Ev (fun k => laws_szCommit.f k x.f0 x.f1 left) (-1) := by
      unfold laws_szCommit.f
      simp only [e, Option.bind_some, show ((-1 : Int) < 0) = True by simp, if_true]
      exact Ev.now _
    have := Ev.uniq h h2
    omega
  · have e : laws_szIntS.f x.f0 left = some (left - (x.f0.length : Int)) := by unfold laws_szIntS.f; rw [hw, if_neg hn]
    obtain ⟨r2, hr2, hrl2, _⟩ := szEntryS_ev x.f1 g.2.1 g.2.2 (left - (x.f0.length : Int)) (by omega) (by omega)
    have h2 : Ev (fun k => laws_szCommit.f k x.f0 x.f1 left) (if r2 < 0 then -1 else r2) := by
      unfold laws_szCommit.f
      simp only [e, Option.bind_some, hn, if_false]
      refine Ev.bind hr2 ?_
      by_cases h3 : r2 < 0
      · simp only [h3, if_true]; exact Ev.now _
      · simp only [h3, if_false]; exact Ev.now _
    have h3 := Ev.uniq h h2
    by_cases h4 : r2 < 0
    · rw [if_pos h4] at h3
      omega
    · rw [if_neg h4] at h3
      have := szEntryS_w x.f1 g.2.1 g.2.2 _ r2 (by omega) (by omega) hr2 (by omega)
      omega
def lC (x : S209) : Nat := x.f0.length + x.f1.length
theorem szCommitS_l0 (xs : List S209) (hlen : xs.length ≤ 4611686018427387904) (hg : ∀ x, x ∈ xs → good209 x) : ∀ (d i : Nat) (left r : Int), i + d = xs.length → 0 ≤ left → left ≤ 1048576 → Ev (fun k => laws_szCommitS.l0 k xs left (i : Int)) r → 0 ≤ r → r ≤ left - (((xs.drop i).map lC).sum : Nat) := by
  intro d
  induction d with
  | zero =>
    intro i left r hi h0 h1 h hr
    have h2 : Ev (fun k => laws_szCommitS.l0 k xs left (i : Int)) left := Ev.at_ (c := 1) (fun k => by simp only [laws_szCommitS.l0]; rw [if_neg (by omega)])
    have := Ev.uniq h h2
    rw [List.drop_eq_nil_of_le (by omega)]
    simp
    omega
  | succ d ih =>
    intro i left r hi h0 h1 h hr
    have hl : i < xs.length := by omega
    have hw : wrap64 ((i : Int) + 1) = ((i + 1 : Nat) : Int) := by unfold wrap64; omega
    have c1 : (i : Int) < (xs.length : Int) := by omega
    have hx : rd_T209 xs (i : Int) = xs[i] := by simp [rd_T209, List.getD_eq_getElem?_getD, List.getElem?_eq_getElem hl]
    obtain ⟨t, ht, htl, _⟩ := szCommit_ev xs[i] (hg _ (List.getElem_mem hl)) left h0 h1
    have step : ∀ q, Ev (fun k => if t < 0 then some (-1) else laws_szCommitS.l0 k xs t ((i + 1 : Nat) : Int)) q → Ev (fun k => laws_szCommitS.l0 k xs left (i : Int)) q := by
      intro q hq
      refine Ev.succ (g := fun k => laws_szCommitS.l0 k xs left (i : Int)) ?_
      simp only [laws_szCommitS.l0, c1, Int.natCast_nonneg, if_true, hx, hw]
      exact Ev.bind ht hq
    by_cases hn : t < 0
    · have h2 := step (-1) (by simp only [hn, if_true]; exact Ev.now _)
      have := Ev.uniq h h2
      omega
    · have h3 := szCommit_w xs[i] (hg _ (List.getElem_mem hl)) left t h0 h1 ht (by omega)
      obtain ⟨q, hq⟩ : ∃ q, Ev (fun k => laws_szCommitS.l0 k xs t ((i + 1 : Nat) : Int)) q := by
        obtain ⟨K, hK⟩ := h
        obtain ⟨M, hM⟩ := ht
        refine ⟨r, K + M, fun n hn2 => ?_⟩
        have h5 := hK (n + 1) (by omega)
        have h6 : laws_szCommit.f n xs[i].f0 xs[i].f1 left = some t := hM n (by omega)
        simp only [laws_szCommitS.l0, c1, Int.natCast_nonneg, if_true, hx, hw] at h5
        rw [h6] at h5
        simp only [Option.bind_some, hn, if_false] at h5
        exact h5
      have h2 := step q (by simp only [hn, if_false]; exact hq)
      obtain rfl := Ev.uniq h h2
      have h4 := ih (i + 1) t r (by omega) (by omega) (by omega) hq hr
      rw [List.drop_eq_getElem_cons hl, List.map_cons, List.sum_cons]
      unfold lC at h4 ⊢
      omega
theorem szCommitS_w (l : List S209) (hl : l.length ≤ 9223372036854775807) (hg : ∀ x, x ∈ l → good209 x) (left r : Int) (h0 : 0 ≤ left) (h1 : left ≤ 1048576) (h : Ev (fun k => laws_szCommitS.f k l left) r) (hr : 0 ≤ r) : (l.map lC).sum ≤ 1048576 := by
  have hw : wrap64 (left - (l.length : Int)) = left - (l.length : Int) := by unfold wrap64; omega
  by_cases hn : left - (l.length : Int) < 0
  · have h2 : Ev (fun k => laws_szCommitS.f k l left) (-1) := Ev.congr (f := fun _ => some (-1)) (fun k => by unfold laws_szCommitS.f; rw [hw, if_pos hn]) (Ev.now _)
    have := Ev.uniq h h2
    omega
  · have h2 : Ev (fun k => laws_szCommitS.l0 k l (left - (l.length : Int)) ((0 : Nat) : Int)) r := Ev.congr (f := fun k => laws_szCommitS.f k l left) (fun k => by unfold laws_szCommitS.f; rw [hw, if_neg hn]; rfl) h
    have h3 := szCommitS_l0 l (by omega) hg l.length 0 (left - (l.length : Int)) r (by omega) (by omega) (by omega) h2 hr
    rw [List.drop_zero] at h3
    omega
theorem wCs_le (l : List S209) : wCs (l.map cvCommit) ≤ 2 * (l.map lC).sum := by
  unfold wCs
  induction l with
  | nil => simp
  | cons x l ih =>
    have e : wC (cvCommit x) ≤ 2 * lC x := by
      unfold wC lC cvCommit
      simp only [List.length_map]
      omega
    simp only [List.map_cons, List.sum_cons] at ih ⊢
    omega
end Go.Proofs.Ytcpljigliklgcaa.Q
end

section
namespace Go.Proofs.Ytcpljigliklgcaa.Q
open Go.RowKit Go.Proofs.YtcpljigliklgcaaW.PrintWords Go.Proofs.YtcpljigliklgcaaW.PrintLast
set_option linter.unusedVariables false
set_option linter.unusedSimpArgs false
theorem markRef1_ev (l : List S178) (m : Int) (hl : l.length ≤ 1048576) (h0 : 0 ≤ m) (hm : m + 4 * l.length ≤ 900000000) :
    ∃ l', l'.length = l.length ∧ Ev (fun k => laws_markRefS.f k l m) (m + 4 * l.length, l') := by
  suffices h : ∃ l', l'.length = l.length ∧ Ev (fun k => laws_markRefS.f k l m) (m + 4 * l.length, l') ∧ Ev (fun k => some (m + 4 * ((l'.length : Int) - 0))) (m + 4 * l.length) by
    obtain ⟨l', h1, h2, _⟩ := h
    exact ⟨l', h1, h2⟩
  obtain ⟨mt, hmt⟩ := markTexts
  have rd0 : ∀ (l : List S178) (i : Nat) (h : i < l.length), rd_T178 l (i : Int) = l[i] := fun l i h => by simp [rd_T178, List.getD_eq_getElem?_getD, List.getElem?_eq_getElem h]
  have rd1 : ∀ (l : List S178) (i : Nat) (v : S178) (h : i < l.length), rd_T178 (l.set i v) (i : Int) = v := fun l i v h => by rw [rd0 _ _ (by rw [List.length_set]; exact h)]; simp
  refine ev_mark_loop (L := laws_markRefS.l0) (H := fun _ (l : List S178) m i => some (m + 4 * ((l.length : Int) - i))) (mk := fun x m => ⟨mt (m), m + 1, m + 2, (Int.tmod (m + 3) 3 == 0)⟩) (c := 4) (by omega) ?_ ?_ ?_ ?_ l m hl h0 hm
  · intro l m i hi hl h0 hm r hr
    have c1 : (i : Int) < (l.length : Int) := by omega
    have w := wrap_i (show i < 4611686018427387904 by omega)
    have w1 : wrap64 (m + 1) = m + 1 := by unfold wrap64; omega
    have w2 : wrap64 (m + 1 + 1) = m + 2 := by unfold wrap64; omega
    have w3 : wrap64 (m + 2 + 1) = m + 3 := by unfold wrap64; omega
    have w4 : wrap64 (m + 3 + 1) = m + 4 := by unfold wrap64; omega
    refine Ev.succ (g := fun k => laws_markRefS.l0 k l m (i : Int)) ?_
    simp only [laws_markRefS.l0, c1, if_true, Int.natCast_nonneg, Option.bind_some, Int.toNat_natCast, rd0 l i hi, rd1 l i _ hi, List.set_set, w, w1, w2, w3, w4]
    refine Ev.bind (hmt (m) (by omega) (by omega)) ?_
    (try simp only [if_true, rd0 l i hi, rd1 l i _ hi, List.set_set, Option.bind_some, w1, w2, w3, w4, bne_self_eq_false, Bool.false_eq_true, if_false])
    exact hr
  · intro l m i hi y hy hl h0 hm r hr
    exact Ev.congr (fun k => by congr 1; omega) hr
  · intro l m k
    simp only [laws_markRefS.l0]
    rw [if_neg (by omega)]
  · intro l m k
    congr 1
    omega
end Go.Proofs.Ytcpljigliklgcaa.Q
end

section
namespace Go.Proofs.Ytcpljigliklgcaa.Q
open Go.RowKit Go.Proofs.YtcpljigliklgcaaW.PrintWords Go.Proofs.YtcpljigliklgcaaW.PrintLast
set_option linter.unusedVariables false
set_option linter.unusedSimpArgs false
theorem szBase_w (a : List S209) (b : List S211) (ha : a.length ≤ 9223372036854775807 ∧ ∀ x, x ∈ a → good209 x) (left r : Int) (h0 : 0 ≤ left) (h1 : left ≤ 1048576) (h : Ev (fun k => laws_szBase.f k a b left) r) (hr : 0 ≤ r) : (a.map lC).sum ≤ 1048576 := by
  obtain ⟨r1, e1, _, _⟩ := szCommitS_ev a ha.1 ha.2 left h0 h1
  by_cases hn : r1 < 0
  · have h2 : Ev (fun k => laws_szBase.f k a b left) (-1) := by
      unfold laws_szBase.f
      exact Ev.bind e1 (by simp only [hn, if_true]; exact Ev.now _)
    have := Ev.uniq h h2
    omega
  · exact szCommitS_w a ha.1 ha.2 left r1 h0 h1 e1 (by omega)
theorem markBase_ev (a : List S209) (b : List S178) (hf : ∀ x, x ∈ a.map cvCommit → x.f0.length ≤ 1048576 ∧ x.f1.length ≤ 1048576) (hs : (a.map lC).sum ≤ 1048576) (hb : b.length ≤ 1048576) : ∃ r, Ev (fun k => laws_markBase.f k (a.map cvCommit) b 1) r ∧ 0 ≤ r := by
  have hw := wCs_le a
  obtain ⟨l', _, h2⟩ := markRef1_ev b (1 + wCs (a.map cvCommit)) hb (by omega) (by omega)
  refine ⟨1 + wCs (a.map cvCommit) + 4 * b.length, ?_, by omega⟩
  unfold laws_markBase.f
  exact Ev.bind (markCommitS_ev (a.map cvCommit) 1 hf (by omega) (by omega)) (Ev.bind h2 (Ev.now _))
end Go.Proofs.Ytcpljigliklgcaa.Q
end

section
namespace Go.Proofs.Ytcpljigliklgcaa.Pure
open Go.RowKit Go.Proofs.Ytcpljigliklgcaa.Q Go.Proofs.YtcpljigliklgcaaW.PrintWords Go.Proofs.YtcpljigliklgcaaW.PrintLast
set_option linter.unusedVariables false
set_option linter.unusedSimpArgs false
theorem snap_at2 {c : Int} {n : Nat} (h : inB c 1 n = true) (hn : n ≤ 1048576) : ∃ i, i < n ∧ wrap64 (c - 1) = (i : Int) := by
  unfold inB at h
  simp only [Bool.and_eq_true, decide_eq_true_eq] at h
  refine ⟨(c - 1).toNat, by omega, ?_⟩
  unfold wrap64
  omega
theorem map_of_base {st : List S118} {rf : List S178} (h : baseB st rf = true) {i : Nat} (hi : i < st.length) : mapB st[i].f1 = true := by
  unfold baseB at h
  simp only [Bool.and_eq_true] at h
  have h2 := h.1
  unfold storeB at h2
  simp only [Bool.and_eq_true, allR_iff] at h2
  have h3 := h2.2 i hi
  rw [rdCommit hi] at h3
  unfold commitB at h3
  rw [Bool.and_eq_true] at h3
  exact h3.1
theorem scanS_ok (l : List S51) (a b : ByteArray) (hm : mapB l = true) (ha : ¬ (a.size : Int) > 65536) (hb : ¬ (b.size : Int) > 65536) : Ev (fun k => spec_Scan.f k l a b) (l.filter (fun x => !goneE a b x), 0) := by
  have h12 := mapB_len hm
  have g1 : ¬ (l.length : Int) > 4096 := by omega
  have hlo := scan_loop l a b (by omega) l.length 0 (by omega)
  have e0 : keptE (goneE a b) l 0 = [] := rfl
  rw [e0] at hlo
  refine Ev.congr (f := fun k => spec_Scan.j0 k l a b false) (fun k => by unfold spec_Scan.f; simp only [g1, ha, hb, if_false, decide_false]) (Ev.succ ?_)
  simp only [spec_Scan.j0, Bool.false_eq_true, if_false, spec_l01OK.f, Option.bind_some, hm, if_true]
  exact hlo
theorem scanSnap_both (st : List S118) (rf : List S178) (n : ByteArray) (c : Int) (a b : ByteArray) (hs : st.length ≤ 1048576) (hf : ∀ x, x ∈ st → x.f0.length ≤ 1048576 ∧ x.f1.length ≤ 1048576) :
    ∃ res code, Ev (fun k => spec_ScanSnap.f k st rf n c a b) (res, code) ∧ Ev (fun k => impl_ScanSnap.f k st rf n c a b) (res, code) ∧ res.length ≤ 1048576 := by
  by_cases hb : (a.size : Int) > 65536 ∨ (b.size : Int) > 65536
  · refine ⟨[], 2, Ev.at_ (c := 1) (fun k => ?_), Ev.at_ (c := 1) (fun k => ?_), by simp⟩
    · unfold spec_ScanSnap.f
      by_cases h1 : (a.size : Int) > 65536
      · simp only [h1, if_true, spec_ScanSnap.j0]
      · have h2 : (b.size : Int) > 65536 := by omega
        simp only [h1, h2, if_false, decide_true, spec_ScanSnap.j0, if_true]
    · unfold impl_ScanSnap.f impl_isText.f
      simp only [Option.bind_some]
      by_cases h1 : (a.size : Int) ≤ 65536
      · have h2 : ¬ (b.size : Int) ≤ 65536 := by omega
        simp only [h1, h2, decide_true, decide_false, if_true, Bool.not_false, impl_ScanSnap.j0]
      · simp only [h1, decide_false, Bool.false_eq_true, if_false, impl_ScanSnap.j0, if_true]
  have g2 : ¬ (a.size : Int) > 65536 := by omega
  have g3 : ¬ (b.size : Int) > 65536 := by omega
  have f2 : (a.size : Int) ≤ 65536 := by omega
  have f3 : (b.size : Int) ≤ 65536 := by omega
  have hS : ∀ r, Ev (fun k => spec_ScanSnap.j0 k a b false st rf n c) r → Ev (fun k => spec_ScanSnap.f k st rf n c a b) r := fun r h => Ev.congr (fun k => by unfold spec_ScanSnap.f; simp only [g2, g3, if_false, decide_false]) h
  have hI : ∀ r, Ev (fun k => impl_ScanSnap.j0 k a b false st rf n c) r → Ev (fun k => impl_ScanSnap.f k st rf n c a b) r := fun r h => Ev.congr (fun k => by unfold impl_ScanSnap.f impl_isText.f; simp only [Option.bind_some, f2, f3, decide_true, if_true, Bool.not_true]) h
  have hB := l05OK_ev st rf
  have hT := l10Snap_ev st rf n c
  have hN := snapOK_impl st rf n c hs (fun x hx => (hf x hx).2)
  unfold snapB at hN
  cases hb2 : baseB st rf with
  | false =>
    rw [hb2] at hB hN
    refine ⟨[], 1, hS _ (Ev.succ ?_), hI _ (Ev.succ ?_), by simp⟩
    · simp only [spec_ScanSnap.j0, Bool.false_eq_true, if_false]
      exact Ev.bind hB (by simp only [Bool.false_eq_true, if_false]; exact Ev.now _)
    · simp only [impl_ScanSnap.j0, Bool.false_eq_true, if_false]
      exact Ev.bind hN (by simp only [Bool.false_and, Bool.false_eq_true, if_false]; exact Ev.now _)
  | true =>
    rw [hb2] at hB hN
    cases hc : (nameB n && inB c 1 st.length) with
    | false =>
      rw [hc] at hT hN
      refine ⟨[], 1, hS _ (Ev.succ ?_), hI _ (Ev.succ ?_), by simp⟩
      · simp only [spec_ScanSnap.j0, Bool.false_eq_true, if_false]
        exact Ev.bind hB (by simp only [if_true]; exact Ev.bind hT (by simp only [Bool.false_eq_true, if_false]; exact Ev.now _))
      · simp only [impl_ScanSnap.j0, Bool.false_eq_true, if_false]
        exact Ev.bind hN (by simp only [Bool.true_and, Bool.false_eq_true, if_false]; exact Ev.now _)
    | true =>
      rw [hc] at hT hN
      have hin : inB c 1 st.length = true := by simp only [Bool.and_eq_true] at hc; exact hc.2
      obtain ⟨i, hi, hw⟩ := snap_at2 hin hs
      have c1 : (i : Int) < (st.length : Int) := by omega
      have e1 : rd_T118 st (i : Int) = st[i] := rdCommit hi
      have hm := map_of_base hb2 hi
      have h12 := mapB_len hm
      have hfl : (st[i].f1.filter (fun x => !goneE a b x)).length ≤ st[i].f1.length := List.length_filter_le _ _
      refine ⟨st[i].f1.filter (fun x => !goneE a b x), 0, hS _ (Ev.succ ?_), hI _ (Ev.succ ?_), by omega⟩
      · simp only [spec_ScanSnap.j0, Bool.false_eq_true, if_false]
        refine Ev.bind hB ?_
        simp only [if_true]
        refine Ev.bind hT ?_
        simp only [if_true, hw, Int.natCast_nonneg, c1, e1]
        exact Ev.bind (scanS_ok _ a b hm g2 g3) (Ev.now _)
      · simp only [impl_ScanSnap.j0, Bool.false_eq_true, if_false]
        refine Ev.bind hN ?_
        simp only [Bool.and_self, if_true, hw, Int.natCast_nonneg, c1, e1, impl_scan.f, (show st[i].f1.length ≤ 2000000 by omega), Option.bind_some]
        exact Ev.now _
theorem FnExactScanSnap : laws_FnExactScanSnap.Pure := by
  intro l0 l1 a0 a1 a2 a3 w0 w1 w2 w3
  refine Ev.rounds ?_
  unfold laws_FnExactScanSnap.f
  by_cases hn1 : (a2.size : Int) > 1048576
  · simp only [hn1, if_true]
    exact Ev.now _
  simp only [hn1, if_false]
  by_cases hn3 : (a3.size : Int) > 1048576
  · simp only [hn3, if_true]
    exact Ev.now _
  simp only [hn3, if_false]
  obtain ⟨r, hr, hrl, hrs⟩ := szBase_ev l0 l1 w0.1 w0.2 1048576 (by omega) (by omega)
  have hsum := fun h => szBase_w l0 l1 w0.1 1048576 r (by omega) (by omega) hr h
  refine Ev.bind hr ?_
  by_cases hn : r < 0
  · simp only [hn, if_true]
    exact Ev.now _
  simp only [hn, if_false]
  obtain ⟨⟨hl, hf⟩, hb⟩ := hrs (by omega)
  obtain ⟨r2, hr2⟩ := szSnap_is a0 a1 r
  simp only [hr2, Option.bind_some]
  by_cases hn2 : r2 < 0
  · simp only [hn2, if_true]
    exact Ev.now _
  simp only [hn2, if_false]
  have ht := toBase_ev l0 l1 hl hf hb
  have hf2 := fit_cv hf
  have hl2 : (l0.map cvCommit).length ≤ 1048576 := by simpa using hl
  have hb2 : (l1.map cvRef).length ≤ 1048576 := by simpa using hb
  obtain ⟨res, code, hs, hi, hres⟩ := scanSnap_both (l0.map cvCommit) (l1.map cvRef) a0 a1 a2 a3 hl2 hf2
  refine Ev.bind ht ?_
  simp only [laws_toSnap.f, Option.bind_some]
  refine Ev.bind hs (Ev.bind ht (Ev.bind hi (Ev.bind (eqEntryS_ev res hres) ?_)))
  simp only [if_true, bne_self_eq_false]
  refine Ev.succ ?_
  simp only [laws_FnExactScanSnap.j0, Bool.false_eq_true, if_false]
  refine Ev.bind ht (Ev.bind (eqBase_ev _ _ hl2 hf2 hb2) ?_)
  simp only [if_true]
  obtain ⟨q, hq, hq0⟩ := markBase_ev l0 (l1.map cvRef) hf2 (hsum (by omega)) hb2
  refine Ev.bind hq ?_
  have n1 : ¬ (q < 0) := by omega
  simp only [n1, if_false]
  refine Ev.bind (eqEntryS_ev res hres) ?_
  simp only [if_true, bne_self_eq_false]
  refine Ev.succ ?_
  simp only [laws_FnExactScanSnap.j1, Bool.false_eq_true, if_false]
  obtain ⟨lr, _, hmR, hhR⟩ := markEntryS_ev res 1 hres (by omega) (by omega)
  have n2 : ¬ (1 + 2 * (res.length : Int) < 0) := by omega
  refine Ev.bind hmR (Ev.bind hhR ?_)
  simp only [n2, if_false, if_true]
  refine Ev.bind ht ?_
  simp only [laws_toSnap.f, Option.bind_some]
  refine Ev.bind hi (Ev.bind (eqEntryS_ev res hres) ?_)
  simp only [if_true, bne_self_eq_false]
  refine Ev.succ ?_
  simp only [laws_FnExactScanSnap.j2, Bool.false_eq_true, if_false]
  refine Ev.bind hhR ?_
  simp only [n2, if_false, if_true]
  exact Ev.now _
end Go.Proofs.Ytcpljigliklgcaa.Pure
end
