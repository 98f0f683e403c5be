/- Parts of the proof of the law FnExactMergeEdits, joined into one text. -/
import Derived.Test.YtblejbgkcgajgaaMFnExactMergeEdits4
section
namespace Go.Proofs.Ytblejbgkcgajgaa.Q
open Go.RowKit Go.Proofs.YtblejbgkcgajgaaW.PrintWords Go.Proofs.YtblejbgkcgajgaaW.PrintLast Go.Proofs.YtblejbgkcgajgaaW.PrintMore
attribute [local go_sem] max2_int min2_int max_two min_two max_three min_three max_four min_four   -- for this text's walks alone
set_option linter.unusedVariables false
set_option linter.unusedSimpArgs false
attribute [local go_sem] bin_leq bin_gtr bin_geq
mutual
def laws_FnExactMergeEdits.j0 : Nat → List (S51) → List (S67) → List (S67) → List (S55) → List ByteArray → Int → List (S55) → List (S62) → List (S62) → List (S55) → List ByteArray → Int → Bool → Option (Bool)
  | 0, _, _, _, _, _, _, _, _, _, _, _, _, _ => none
  | k + 1, x0, x1, x2, x8, x9, x10, x11, x12, x13, x14, x15, x16, x77 => if x77 = true then (some false) else ((laws_toEntryS.f k x0).bind fun t830 => ((laws_eqEntryS.f k x11 t830).bind fun t833 => (if t833 = true then ((laws_toEditS.f k x1).bind fun t834 => ((laws_eqEditS.f k x12 t834).bind fun t837 => (if t837 = true then ((laws_toEditS.f k x2).bind fun t838 => ((laws_eqEditS.f k x13 t838).bind fun t841 => (if t841 = true then ((laws_markEntryS.f k x11 1).bind fun bt842 => ((laws_markEditS.f k x12 bt842.1).bind fun bt844 => ((laws_markEditS.f k x13 bt844.1).bind fun bt846 => (if bt846.1 < 0 then (laws_FnExactMergeEdits.j1 k x0 x1 x2 x8 x9 x10 x14 x15 true) else ((laws_eqEntryS.f k x14 x8).bind fun t848 => (if t848 = true then ((laws_eqStringS.f k x15 x9).bind fun t849 => (if t849 = true then (laws_FnExactMergeEdits.j1 k x0 x1 x2 x8 x9 x10 x14 x15 (x16 != x10)) else (laws_FnExactMergeEdits.j1 k x0 x1 x2 x8 x9 x10 x14 x15 true))) else (laws_FnExactMergeEdits.j1 k x0 x1 x2 x8 x9 x10 x14 x15 true))))))) else (some false)))) else (some false)))) else (some false))))
def laws_FnExactMergeEdits.j1 : Nat → List (S51) → List (S67) → List (S67) → List (S55) → List ByteArray → Int → List (S55) → List ByteArray → Bool → Option (Bool)
  | 0, _, _, _, _, _, _, _, _, _ => none
  | k + 1, x0, x1, x2, x8, x9, x10, x14, x15, x120 => if x120 = true then (some false) else ((laws_markEntryS.f k x14 1).bind fun bt850 => ((laws_markStringS.f k x15 bt850.1).bind fun bt852 => ((laws_heldEntryS.f k bt850.2 1).bind fun t854 => (if t854 < 0 then (some false) else ((laws_heldStringS.f k bt852.2 t854).bind fun t855 => (if t855 < 0 then (some false) else (if t855 = bt852.1 then ((laws_toEntryS.f k x0).bind fun t856 => ((laws_toEditS.f k x1).bind fun t859 => ((laws_toEditS.f k x2).bind fun t862 => ((impl_MergeEdits.f k t856 t859 t862).bind fun bt865 => ((laws_eqEntryS.f k bt865.1 x8).bind fun t872 => (if t872 = true then ((laws_eqStringS.f k bt865.2.1 x9).bind fun t873 => (if t873 = true then (laws_FnExactMergeEdits.j2 k bt850.2 bt852.2 bt852.1 (bt865.2.2 != x10)) else (laws_FnExactMergeEdits.j2 k bt850.2 bt852.2 bt852.1 true))) else (laws_FnExactMergeEdits.j2 k bt850.2 bt852.2 bt852.1 true))))))) else (some false))))))))
def laws_FnExactMergeEdits.j2 : Nat → List (S55) → List ByteArray → Int → Bool → Option (Bool)
  | 0, _, _, _, _ => none
  | k + 1, x14, x15, x18, x165 => if x165 = true then (some false) else ((laws_heldEntryS.f k x14 1).bind fun t874 => (if t874 < 0 then (some false) else ((laws_heldStringS.f k x15 t874).bind fun t875 => (if t875 < 0 then (some false) else (if t875 = x18 then (some true) else (some false))))))
end
def laws_FnExactMergeEdits.f (k : Nat) (l0 : List (S51)) (l1 : List (S67)) (l2 : List (S67)) : Option (Bool) := (laws_szEntryS.f k l0 1048576).bind fun t793 => (if t793 < 0 then (some true) else ((laws_szEditS.f k l1 t793).bind fun t794 => (if t794 < 0 then (some true) else ((laws_szEditS.f k l2 t794).bind fun t795 => (if t795 < 0 then (some true) else ((laws_toEntryS.f k l0).bind fun t796 => ((laws_toEditS.f k l1).bind fun t799 => ((laws_toEditS.f k l2).bind fun t802 => ((spec_MergeEdits.f k t796 t799 t802).bind fun bt805 => ((laws_toEntryS.f k l0).bind fun t812 => ((laws_toEditS.f k l1).bind fun t815 => ((laws_toEditS.f k l2).bind fun t818 => ((impl_MergeEdits.f k t812 t815 t818).bind fun bt821 => ((laws_eqEntryS.f k bt821.1 bt805.1).bind fun t828 => (if t828 = true then ((laws_eqStringS.f k bt821.2.1 bt805.2.1).bind fun t829 => (if t829 = true then (laws_FnExactMergeEdits.j0 k l0 l1 l2 bt805.1 bt805.2.1 bt805.2.2 t812 t815 t818 bt821.1 bt821.2.1 bt821.2.2 (bt821.2.2 != bt805.2.2)) else (laws_FnExactMergeEdits.j0 k l0 l1 l2 bt805.1 bt805.2.1 bt805.2.2 t812 t815 t818 bt821.1 bt821.2.1 bt821.2.2 true))) else (laws_FnExactMergeEdits.j0 k l0 l1 l2 bt805.1 bt805.2.1 bt805.2.2 t812 t815 t818 bt821.1 bt821.2.1 bt821.2.2 true))))))))))))))))
set_option maxHeartbeats 8000000 in
set_option maxRecDepth 100000 in
theorem laws_FnExactMergeEdits.calls (k : Nat) (A0 : Option Addr) (c0 : Nat) (l0 : List (S51)) (A1 : Option Addr) (c1 : Nat) (l1 : List (S67)) (A2 : Option Addr) (c2 : Nat) (l2 : List (S67)) (w : World) (hr0 : Kd.C k51 w A0 l0.length l0) (hc0 : l0.length ≤ c0) (hr1 : Kd.C k67 w A1 l1.length l1) (hc1 : l1.length ≤ c1) (hr2 : Kd.C k67 w A2 l2.length l2) (hc2 : l2.length ≤ c2) (h : laws_FnExactMergeEdits.f k l0 l1 l2 = some true) :
    Calls Try.prog 7 #[.slice A0 l0.length c0, .slice A1 l1.length c1, .slice A2 l2.length c2] w fun e w' => e = .returned (.bool true) ∧ Below w.heap.size w w' := by
  have HR0 := Aside0.mk hr0
  have HC0 := Aside0.mk hc0
  clear hr0 hc0
  have HR1 := Aside0.mk hr1
  have HC1 := Aside0.mk hc1
  clear hr1 hc1
  have HR2 := Aside0.mk hr2
  have HC2 := Aside0.mk hc2
  clear hr2 hc2
  have HB := Aside0.mk (Below.refl w.heap.size w)
  have H : ((laws_szEntryS.f k l0 1048576).bind fun t793 => (if t793 < 0 then (some true) else ((laws_szEditS.f k l1 t793).bind fun t794 => (if t794 < 0 then (some true) else ((laws_szEditS.f k l2 t794).bind fun t795 => (if t795 < 0 then (some true) else ((laws_toEntryS.f k l0).bind fun t796 => ((laws_toEditS.f k l1).bind fun t799 => ((laws_toEditS.f k l2).bind fun t802 => ((spec_MergeEdits.f k t796 t799 t802).bind fun bt805 => ((laws_toEntryS.f k l0).bind fun t812 => ((laws_toEditS.f k l1).bind fun t815 => ((laws_toEditS.f k l2).bind fun t818 => ((impl_MergeEdits.f k t812 t815 t818).bind fun bt821 => ((laws_eqEntryS.f k bt821.1 bt805.1).bind fun t828 => (if t828 = true then ((laws_eqStringS.f k bt821.2.1 bt805.2.1).bind fun t829 => (if t829 = true then (laws_FnExactMergeEdits.j0 k l0 l1 l2 bt805.1 bt805.2.1 bt805.2.2 t812 t815 t818 bt821.1 bt821.2.1 bt821.2.2 (bt821.2.2 != bt805.2.2)) else (laws_FnExactMergeEdits.j0 k l0 l1 l2 bt805.1 bt805.2.1 bt805.2.2 t812 t815 t818 bt821.1 bt821.2.1 bt821.2.2 true))) else (laws_FnExactMergeEdits.j0 k l0 l1 l2 bt805.1 bt805.2.1 bt805.2.2 t812 t815 t818 bt821.1 bt821.2.1 bt821.2.2 true))))))))))))))))) = some true := h
  clear h
  replace H := Option.bind_eq_some_iff.mp H
  obtain ⟨t793, A40, H⟩ := H
  replace H : (if t793 < 0 then (some true) else ((laws_szEditS.f k l1 t793).bind fun t794 => (if t794 < 0 then (some true) else ((laws_szEditS.f k l2 t794).bind fun t795 => (if t795 < 0 then (some true) else ((laws_toEntryS.f k l0).bind fun t796 => ((laws_toEditS.f k l1).bind fun t799 => ((laws_toEditS.f k l2).bind fun t802 => ((spec_MergeEdits.f k t796 t799 t802).bind fun bt805 => ((laws_toEntryS.f k l0).bind fun t812 => ((laws_toEditS.f k l1).bind fun t815 => ((laws_toEditS.f k l2).bind fun t818 => ((impl_MergeEdits.f k t812 t815 t818).bind fun bt821 => ((laws_eqEntryS.f k bt821.1 bt805.1).bind fun t828 => (if t828 = true then ((laws_eqStringS.f k bt821.2.1 bt805.2.1).bind fun t829 => (if t829 = true then (laws_FnExactMergeEdits.j0 k l0 l1 l2 bt805.1 bt805.2.1 bt805.2.2 t812 t815 t818 bt821.1 bt821.2.1 bt821.2.2 (bt821.2.2 != bt805.2.2)) else (laws_FnExactMergeEdits.j0 k l0 l1 l2 bt805.1 bt805.2.1 bt805.2.2 t812 t815 t818 bt821.1 bt821.2.1 bt821.2.2 true))) else (laws_FnExactMergeEdits.j0 k l0 l1 l2 bt805.1 bt805.2.1 bt805.2.2 t812 t815 t818 bt821.1 bt821.2.1 bt821.2.2 true)))))))))))))))) = some true := H
  have A4 := Aside0.mk A40
  clear A40
  by_cases c5 : t793 < 0
  · rw [if_pos c5] at H
    have c5b0 : decide (t793 < 0) = true := decide_eq_true c5
    clear c5
    clear H
    go_enter Try.func7, Try.ntmps7
    go_wp2_with (((with_reducible refine gate_callee (f := 8) rfl ?_); refine goesL_ (some 25) rfl rfl Try.func8 (by kernel_rfl) rfl #[.slice A0 l0.length c0, .int .i64 1048576] rfl gA ?_; (with_reducible refine (laws_szEntryS.calls k _ _ l0 1048576 t793 _ ?side1 ?side2 A4.out).mono ?_); (case side1 => exact cN HR0); (case side2 => exact HC0.out); rintro e w6 ⟨rfl, hb⟩; refine ⟨_, rfl, ?_⟩; have n0_ := Aside0.mk (below_step (w := w) bW hb); clear HB; have HB := n0_; clear n0_; (try clear hb)))
    go_ret
    exact ⟨rE, bW⟩
  · rw [if_neg c5] at H
    have c5b0 : decide (t793 < 0) = false := decide_eq_false c5
    clear c5
    replace H := Option.bind_eq_some_iff.mp H
    obtain ⟨t794, A70, H⟩ := H
    replace H : (if t794 < 0 then (some true) else ((laws_szEditS.f k l2 t794).bind fun t795 => (if t795 < 0 then (some true) else ((laws_toEntryS.f k l0).bind fun t796 => ((laws_toEditS.f k l1).bind fun t799 => ((laws_toEditS.f k l2).bind fun t802 => ((spec_MergeEdits.f k t796 t799 t802).bind fun bt805 => ((laws_toEntryS.f k l0).bind fun t812 => ((laws_toEditS.f k l1).bind fun t815 => ((laws_toEditS.f k l2).bind fun t818 => ((impl_MergeEdits.f k t812 t815 t818).bind fun bt821 => ((laws_eqEntryS.f k bt821.1 bt805.1).bind fun t828 => (if t828 = true then ((laws_eqStringS.f k bt821.2.1 bt805.2.1).bind fun t829 => (if t829 = true then (laws_FnExactMergeEdits.j0 k l0 l1 l2 bt805.1 bt805.2.1 bt805.2.2 t812 t815 t818 bt821.1 bt821.2.1 bt821.2.2 (bt821.2.2 != bt805.2.2)) else (laws_FnExactMergeEdits.j0 k l0 l1 l2 bt805.1 bt805.2.1 bt805.2.2 t812 t815 t818 bt821.1 bt821.2.1 bt821.2.2 true))) else (laws_FnExactMergeEdits.j0 k l0 l1 l2 bt805.1 bt805.2.1 bt805.2.2 t812 t815 t818 bt821.1 bt821.2.1 bt821.2.2 true)))))))))))))) = some true := H
    have A7 := Aside0.mk A70
    clear A70
    by_cases c8 : t794 < 0
    · rw [if_pos c8] at H
      have c8b0 : decide (t794 < 0) = true := decide_eq_true c8
      clear c8
      clear H
      go_enter Try.func7, Try.ntmps7
      go_wp2_with (first | ((with_reducible refine gate_callee (f := 8) rfl ?_); refine goesL_ (some 25) rfl rfl Try.func8 (by kernel_rfl) rfl #[.slice A0 l0.length c0, .int .i64 1048576] rfl gA ?_; (with_reducible refine (laws_szEntryS.calls k _ _ l0 1048576 t793 _ ?side1 ?side2 A4.out).mono ?_); (case side1 => exact cN HR0); (case side2 => exact HC0.out); rintro e w9 ⟨rfl, hb⟩; refine ⟨_, rfl, ?_⟩; have n0_ := Aside0.mk (below_step (w := w) bW hb); clear HB; have HB := n0_; clear n0_; (try clear hb)) | ((with_reducible refine gate_callee (f := 27) rfl ?_); refine goesL_ (some 30) rfl rfl Try.func27 (by kernel_rfl) rfl #[.slice A1 l1.length c1, .int .i64 t793] rfl gA ?_; (with_reducible refine (laws_szEditS.calls k _ _ l1 t793 t794 _ ?side1 ?side2 A7.out).mono ?_); (case side1 => exact cB HR1); (case side2 => exact HC1.out); rintro e w10 ⟨rfl, hb⟩; refine ⟨_, rfl, ?_⟩; have n0_ := Aside0.mk (below_step (w := w) bW hb); clear HB; have HB := n0_; clear n0_; (try clear hb)))
      go_ret
      exact ⟨rE, bW⟩
    · rw [if_neg c8] at H
      have c8b0 : decide (t794 < 0) = false := decide_eq_false c8
      clear c8
      replace H := Option.bind_eq_some_iff.mp H
      obtain ⟨t795, A110, H⟩ := H
      replace H : (if t795 < 0 then (some true) else ((laws_toEntryS.f k l0).bind fun t796 => ((laws_toEditS.f k l1).bind fun t799 => ((laws_toEditS.f k l2).bind fun t802 => ((spec_MergeEdits.f k t796 t799 t802).bind fun bt805 => ((laws_toEntryS.f k l0).bind fun t812 => ((laws_toEditS.f k l1).bind fun t815 => ((laws_toEditS.f k l2).bind fun t818 => ((impl_MergeEdits.f k t812 t815 t818).bind fun bt821 => ((laws_eqEntryS.f k bt821.1 bt805.1).bind fun t828 => (if t828 = true then ((laws_eqStringS.f k bt821.2.1 bt805.2.1).bind fun t829 => (if t829 = true then (laws_FnExactMergeEdits.j0 k l0 l1 l2 bt805.1 bt805.2.1 bt805.2.2 t812 t815 t818 bt821.1 bt821.2.1 bt821.2.2 (bt821.2.2 != bt805.2.2)) else (laws_FnExactMergeEdits.j0 k l0 l1 l2 bt805.1 bt805.2.1 bt805.2.2 t812 t815 t818 bt821.1 bt821.2.1 bt821.2.2 true))) else (laws_FnExactMergeEdits.j0 k l0 l1 l2 bt805.1 bt805.2.1 bt805.2.2 t812 t815 t818 bt821.1 bt821.2.1 bt821.2.2 true)))))))))))) = some true := H
      have A11 := Aside0.mk A110
      clear A110
      by_cases c12 : t795 < 0
      · rw [if_pos c12] at H
        have c12b0 : decide (t795 < 0) = true := decide_eq_true c12
        clear c12
        clear H
        go_enter Try.func7, Try.ntmps7
        go_wp2_with (first | ((with_reducible refine gate_callee (f := 8) rfl ?_); refine goesL_ (some 25) rfl rfl Try.func8 (by kernel_rfl) rfl #[.slice A0 l0.length c0, .int .i64 1048576] rfl gA ?_; (with_reducible refine (laws_szEntryS.calls k _ _ l0 1048576 t793 _ ?side1 ?side2 A4.out).mono ?_); (case side1 => exact cN HR0); (case side2 => exact HC0.out); rintro e w13 ⟨rfl, hb⟩; refine ⟨_, rfl, ?_⟩; have n0_ := Aside0.mk (below_step (w := w) bW hb); clear HB; have HB := n0_; clear n0_; (try clear hb)) | ((with_reducible refine gate_callee (f := 27) rfl ?_); refine goesL_ (some 30) rfl rfl Try.func27 (by kernel_rfl) rfl #[.slice A1 l1.length c1, .int .i64 t793] rfl gA ?_; (with_reducible refine (laws_szEditS.calls k _ _ l1 t793 t794 _ ?side1 ?side2 A7.out).mono ?_); (case side1 => exact cB HR1); (case side2 => exact HC1.out); rintro e w14 ⟨rfl, hb⟩; refine ⟨_, rfl, ?_⟩; have n0_ := Aside0.mk (below_step (w := w) bW hb); clear HB; have HB := n0_; clear n0_; (try clear hb)) | ((with_reducible refine gate_callee (f := 27) rfl ?_); refine goesL_ (some 35) rfl rfl Try.func27 (by kernel_rfl) rfl #[.slice A2 l2.length c2, .int .i64 t794] rfl gA ?_; (with_reducible refine (laws_szEditS.calls k _ _ l2 t794 t795 _ ?side1 ?side2 A11.out).mono ?_); (case side1 => exact cB HR2); (case side2 => exact HC2.out); rintro e w15 ⟨rfl, hb⟩; refine ⟨_, rfl, ?_⟩; have n0_ := Aside0.mk (below_step (w := w) bW hb); clear HB; have HB := n0_; clear n0_; (try clear hb)))
        go_ret
        exact ⟨rE, bW⟩
      · rw [if_neg c12] at H
        have c12b0 : decide (t795 < 0) = false := decide_eq_false c12
        clear c12
        replace H := Option.bind_eq_some_iff.mp H
        obtain ⟨t796, A160, H⟩ := H
        replace H : ((laws_toEditS.f k l1).bind fun t799 => ((laws_toEditS.f k l2).bind fun t802 => ((spec_MergeEdits.f k t796 t799 t802).bind fun bt805 => ((laws_toEntryS.f k l0).bind fun t812 => ((laws_toEditS.f k l1).bind fun t815 => ((laws_toEditS.f k l2).bind fun t818 => ((impl_MergeEdits.f k t812 t815 t818).bind fun bt821 => ((laws_eqEntryS.f k bt821.1 bt805.1).bind fun t828 => (if t828 = true then ((laws_eqStringS.f k bt821.2.1 bt805.2.1).bind fun t829 => (if t829 = true then (laws_FnExactMergeEdits.j0 k l0 l1 l2 bt805.1 bt805.2.1 bt805.2.2 t812 t815 t818 bt821.1 bt821.2.1 bt821.2.2 (bt821.2.2 != bt805.2.2)) else (laws_FnExactMergeEdits.j0 k l0 l1 l2 bt805.1 bt805.2.1 bt805.2.2 t812 t815 t818 bt821.1 bt821.2.1 bt821.2.2 true))) else (laws_FnExactMergeEdits.j0 k l0 l1 l2 bt805.1 bt805.2.1 bt805.2.2 t812 t815 t818 bt821.1 bt821.2.1 bt821.2.2 true)))))))))) = some true := H
        have A16 := Aside0.mk A160
        clear A160
        replace H := Option.bind_eq_some_iff.mp H
        obtain ⟨t799, A170, H⟩ := H
        replace H : ((laws_toEditS.f k l2).bind fun t802 => ((spec_MergeEdits.f k t796 t799 t802).bind fun bt805 => ((laws_toEntryS.f k l0).bind fun t812 => ((laws_toEditS.f k l1).bind fun t815 => ((laws_toEditS.f k l2).bind fun t818 => ((impl_MergeEdits.f k t812 t815 t818).bind fun bt821 => ((laws_eqEntryS.f k bt821.1 bt805.1).bind fun t828 => (if t828 = true then ((laws_eqStringS.f k bt821.2.1 bt805.2.1).bind fun t829 => (if t829 = true then (laws_FnExactMergeEdits.j0 k l0 l1 l2 bt805.1 bt805.2.1 bt805.2.2 t812 t815 t818 bt821.1 bt821.2.1 bt821.2.2 (bt821.2.2 != bt805.2.2)) else (laws_FnExactMergeEdits.j0 k l0 l1 l2 bt805.1 bt805.2.1 bt805.2.2 t812 t815 t818 bt821.1 bt821.2.1 bt821.2.2 true))) else (laws_FnExactMergeEdits.j0 k l0 l1 l2 bt805.1 bt805.2.1 bt805.2.2 t812 t815 t818 bt821.1 bt821.2.1 bt821.2.2 true))))))))) = some true := H
        have A17 := Aside0.mk A170
        clear A170
        replace H := Option.bind_eq_some_iff.mp H
        obtain ⟨t802, A180, H⟩ := H
        replace H : ((spec_MergeEdits.f k t796 t799 t802).bind fun bt805 => ((laws_toEntryS.f k l0).bind fun t812 => ((laws_toEditS.f k l1).bind fun t815 => ((laws_toEditS.f k l2).bind fun t818 => ((impl_MergeEdits.f k t812 t815 t818).bind fun bt821 => ((laws_eqEntryS.f k bt821.1 bt805.1).bind fun t828 => (if t828 = true then ((laws_eqStringS.f k bt821.2.1 bt805.2.1).bind fun t829 => (if t829 = true then (laws_FnExactMergeEdits.j0 k l0 l1 l2 bt805.1 bt805.2.1 bt805.2.2 t812 t815 t818 bt821.1 bt821.2.1 bt821.2.2 (bt821.2.2 != bt805.2.2)) else (laws_FnExactMergeEdits.j0 k l0 l1 l2 bt805.1 bt805.2.1 bt805.2.2 t812 t815 t818 bt821.1 bt821.2.1 bt821.2.2 true))) else (laws_FnExactMergeEdits.j0 k l0 l1 l2 bt805.1 bt805.2.1 bt805.2.2 t812 t815 t818 bt821.1 bt821.2.1 bt821.2.2 true)))))))) = some true := H
        have A18 := Aside0.mk A180
        clear A180
        replace H := Option.bind_eq_some_iff.mp H
        obtain ⟨⟨t805, t806, t807⟩, A190, H⟩ := H
        replace H : ((laws_toEntryS.f k l0).bind fun t812 => ((laws_toEditS.f k l1).bind fun t815 => ((laws_toEditS.f k l2).bind fun t818 => ((impl_MergeEdits.f k t812 t815 t818).bind fun bt821 => ((laws_eqEntryS.f k bt821.1 t805).bind fun t828 => (if t828 = true then ((laws_eqStringS.f k bt821.2.1 t806).bind fun t829 => (if t829 = true then (laws_FnExactMergeEdits.j0 k l0 l1 l2 t805 t806 t807 t812 t815 t818 bt821.1 bt821.2.1 bt821.2.2 (bt821.2.2 != t807)) else (laws_FnExactMergeEdits.j0 k l0 l1 l2 t805 t806 t807 t812 t815 t818 bt821.1 bt821.2.1 bt821.2.2 true))) else (laws_FnExactMergeEdits.j0 k l0 l1 l2 t805 t806 t807 t812 t815 t818 bt821.1 bt821.2.1 bt821.2.2 true))))))) = some true := H
        have A19 := Aside0.mk A190
        clear A190
        replace H := Option.bind_eq_some_iff.mp H
        obtain ⟨t812, A200, H⟩ := H
        replace H : ((laws_toEditS.f k l1).bind fun t815 => ((laws_toEditS.f k l2).bind fun t818 => ((impl_MergeEdits.f k t812 t815 t818).bind fun bt821 => ((laws_eqEntryS.f k bt821.1 t805).bind fun t828 => (if t828 = true then ((laws_eqStringS.f k bt821.2.1 t806).bind fun t829 => (if t829 = true then (laws_FnExactMergeEdits.j0 k l0 l1 l2 t805 t806 t807 t812 t815 t818 bt821.1 bt821.2.1 bt821.2.2 (bt821.2.2 != t807)) else (laws_FnExactMergeEdits.j0 k l0 l1 l2 t805 t806 t807 t812 t815 t818 bt821.1 bt821.2.1 bt821.2.2 true))) else (laws_FnExactMergeEdits.j0 k l0 l1 l2 t805 t806 t807 t812 t815 t818 bt821.1 bt821.2.1 bt821.2.2 true)))))) = some true := H
        have A20 := Aside0.mk A200
        clear A200
        replace H := Option.bind_eq_some_iff.mp H
        obtain ⟨t815, A210, H⟩ := H
        replace H : ((laws_toEditS.f k l2).bind fun t818 => ((impl_MergeEdits.f k t812 t815 t818).bind fun bt821 => ((laws_eqEntryS.f k bt821.1 t805).bind fun t828 => (if t828 = true then ((laws_eqStringS.f k bt821.2.1 t806).bind fun t829 => (if t829 = true then (laws_FnExactMergeEdits.j0 k l0 l1 l2 t805 t806 t807 t812 t815 t818 bt821.1 bt821.2.1 bt821.2.2 (bt821.2.2 != t807)) else (laws_FnExactMergeEdits.j0 k l0 l1 l2 t805 t806 t807 t812 t815 t818 bt821.1 bt821.2.1 bt821.2.2 true))) else (laws_FnExactMergeEdits.j0 k l0 l1 l2 t805 t806 t807 t812 t815 t818 bt821.1 bt821.2.1 bt821.2.2 true))))) = some true := H
        have A21 := Aside0.mk A210
        clear A210
        replace H := Option.bind_eq_some_iff.mp H
        obtain ⟨t818, A220, H⟩ := H
        replace H : ((impl_MergeEdits.f k t812 t815 t818).bind fun bt821 => ((laws_eqEntryS.f k bt821.1 t805).bind fun t828 => (if t828 = true then ((laws_eqStringS.f k bt821.2.1 t806).bind fun t829 => (if t829 = true then (laws_FnExactMergeEdits.j0 k l0 l1 l2 t805 t806 t807 t812 t815 t818 bt821.1 bt821.2.1 bt821.2.2 (bt821.2.2 != t807)) else (laws_FnExactMergeEdits.j0 k l0 l1 l2 t805 t806 t807 t812 t815 t818 bt821.1 bt821.2.1 bt821.2.2 true))) else (laws_FnExactMergeEdits.j0 k l0 l1 l2 t805 t806 t807 t812 t815 t818 bt821.1 bt821.2.1 bt821.2.2 true)))) = some true := H
        have A22 := Aside0.mk A220
        clear A220
        replace H := Option.bind_eq_some_iff.mp H
        obtain ⟨⟨t821, t822, t823⟩, A230, H⟩ := H
        replace H : ((laws_eqEntryS.f k t821 t805).bind fun t828 => (if t828 = true then ((laws_eqStringS.f k t822 t806).bind fun t829 => (if t829 = true then (laws_FnExactMergeEdits.j0 k l0 l1 l2 t805 t806 t807 t812 t815 t818 t821 t822 t823 (t823 != t807)) else (laws_FnExactMergeEdits.j0 k l0 l1 l2 t805 t806 t807 t812 t815 t818 t821 t822 t823 true))) else (laws_FnExactMergeEdits.j0 k l0 l1 l2 t805 t806 t807 t812 t815 t818 t821 t822 t823 true))) = some true := H
        have A23 := Aside0.mk A230
        clear A230
        have HC24 := Aside0.mk H
        clear H
        go_enter Try.func7, Try.ntmps7
        go_upto_region 16 with (first | ((with_reducible refine gate_callee (f := 8) rfl ?_); refine goesL_ (some 25) rfl rfl Try.func8 (by kernel_rfl) rfl #[.slice A0 l0.length c0, .int .i64 1048576] rfl gA ?_; (with_reducible refine (laws_szEntryS.calls k _ _ l0 1048576 t793 _ ?side1 ?side2 A4.out).mono ?_); (case side1 => exact cN HR0); (case side2 => exact HC0.out); rintro e w25 ⟨rfl, hb⟩; refine ⟨_, rfl, ?_⟩; have n0_ := Aside0.mk (below_step (w := w) bW hb); clear HB; have HB := n0_; clear n0_; (try clear hb)) | ((with_reducible refine gate_callee (f := 27) rfl ?_); refine goesL_ (some 30) rfl rfl Try.func27 (by kernel_rfl) rfl #[.slice A1 l1.length c1, .int .i64 t793] rfl gA ?_; (with_reducible refine (laws_szEditS.calls k _ _ l1 t793 t794 _ ?side1 ?side2 A7.out).mono ?_); (case side1 => exact cB HR1); (case side2 => exact HC1.out); rintro e w26 ⟨rfl, hb⟩; refine ⟨_, rfl, ?_⟩; have n0_ := Aside0.mk (below_step (w := w) bW hb); clear HB; have HB := n0_; clear n0_; (try clear hb)) | ((with_reducible refine gate_callee (f := 27) rfl ?_); refine goesL_ (some 35) rfl rfl Try.func27 (by kernel_rfl) rfl #[.slice A2 l2.length c2, .int .i64 t794] rfl gA ?_; (with_reducible refine (laws_szEditS.calls k _ _ l2 t794 t795 _ ?side1 ?side2 A11.out).mono ?_); (case side1 => exact cB HR2); (case side2 => exact HC2.out); rintro e w27 ⟨rfl, hb⟩; refine ⟨_, rfl, ?_⟩; have n0_ := Aside0.mk (below_step (w := w) bW hb); clear HB; have HB := n0_; clear n0_; (try clear hb)) | ((with_reducible refine gate_callee (f := 10) rfl ?_); refine goesL_ (some 40) rfl rfl Try.func10 (by kernel_rfl) rfl #[.slice A0 l0.length c0] rfl gA ?_; (with_reducible refine (laws_toEntryS.calls k _ _ l0 t796 _ ?side1 ?side2 A16.out).mono ?_); (case side1 => exact cB HR0); (case side2 => exact HC0.out); rintro e w28 ⟨v797, rfl, ho0, hb⟩; refine ⟨_, rfl, ?_⟩; have n0_ := Aside0.mk (Kd.R_lower ho0 (below_size (w := w) bW)); have n1_ := Aside0.mk (below_step (w := w) bW hb); clear HB; have HO798 := n0_; have HB := n1_; clear n0_ n1_; (try clear hb); (try clear ho0)) | ((with_reducible refine gate_callee (f := 29) rfl ?_); refine goesL_ (some 42) rfl rfl Try.func29 (by kernel_rfl) rfl #[.slice A1 l1.length c1] rfl gA ?_; (with_reducible refine (laws_toEditS.calls k _ _ l1 t799 _ ?side1 ?side2 A17.out).mono ?_); (case side1 => exact cB HR1); (case side2 => exact HC1.out); rintro e w29 ⟨v800, rfl, ho0, hb⟩; refine ⟨_, rfl, ?_⟩; have n0_ := Aside0.mk (Kd.R_below (pR HO798) hb); have n1_ := Aside0.mk (Kd.R_lower ho0 (below_size (w := w) bW)); have n2_ := Aside0.mk (below_step (w := w) bW hb); clear HO798; clear HB; have HO798 := n0_; have HO801 := n1_; have HB := n2_; clear n0_ n1_ n2_; (try clear hb); (try clear ho0)) | ((with_reducible refine gate_callee (f := 29) rfl ?_); refine goesL_ (some 44) rfl rfl Try.func29 (by kernel_rfl) rfl #[.slice A2 l2.length c2] rfl gA ?_; (with_reducible refine (laws_toEditS.calls k _ _ l2 t802 _ ?side1 ?side2 A18.out).mono ?_); (case side1 => exact cB HR2); (case side2 => exact HC2.out); rintro e w30 ⟨v803, rfl, ho0, hb⟩; refine ⟨_, rfl, ?_⟩; have n0_ := Aside0.mk (Kd.R_below (pR HO798) hb); have n1_ := Aside0.mk (Kd.R_elder' (pR HO801) (Kd.R_base ho0) hb); have n2_ := Aside0.mk (Kd.R_lower (Kd.R_new' ho0 (Kd.R_lt (pR HO801))) (below_size (w := w) bW)); have n3_ := Aside0.mk (below_step (w := w) bW hb); clear HO798; clear HO801; clear HB; have HO798 := n0_; have HO801 := n1_; have HO804 := n2_; have HB := n3_; clear n0_ n1_ n2_ n3_; (try clear hb); (try clear ho0); obtain ⟨Ao31, co31, eo31⟩ := Kd.R_slice HO798.out; subst eo31; obtain ⟨Ao32, co32, eo32⟩ := Kd.R_slice HO801.out; subst eo32; obtain ⟨Ao33, co33, eo33⟩ := Kd.R_slice HO804.out; subst eo33) | ((with_reducible refine gate_callee (f := 28) rfl ?_); refine goesL_ (some 45) rfl rfl Try.func28 (by kernel_rfl) rfl #[.slice Ao31 t796.length co31, .slice Ao32 t799.length co32, .slice Ao33 t802.length co33] rfl gA ?_; (with_reducible refine (spec_MergeEdits.calls k _ _ t796 _ _ t799 _ _ t802 t805 t806 t807 _ ?side1 ?side2 ?side3 ?side4 ?side5 ?side6 A19.out).mono ?_); (case side1 => repeat (exact (Kd.R_reads' HO798.out).2.2)); (case side2 => exact (Kd.R_reads' HO798.out).2.1); (case side3 => repeat (exact (Kd.R_reads' HO801.out).2.2)); (case side4 => exact (Kd.R_reads' HO801.out).2.1); (case side5 => repeat (exact (Kd.R_reads' HO804.out).2.2)); (case side6 => exact (Kd.R_reads' HO804.out).2.1); rintro e w34 ⟨v808, v810, rfl, ho0, ho1, hb⟩; refine ⟨_, rfl, ?_⟩; have n0_ := Aside0.mk (Kd.R_elder' (pR HO798) (Kd.R_base ho0) hb); have n1_ := Aside0.mk (Kd.R_below (pR HO801) hb); have n2_ := Aside0.mk (Kd.R_below (pR HO804) hb); have n3_ := Aside0.mk (Kd.R_lower (Kd.R_new' ho0 (Kd.R_lt (pR HO798))) (below_size (w := w) bW)); have n4_ := Aside0.mk (Kd.R_lower ho1 (below_size (w := w) bW)); have n5_ := Aside0.mk (below_step (w := w) bW hb); clear HO798; clear HO801; clear HO804; clear HB; have HO798 := n0_; have HO801 := n1_; have HO804 := n2_; have HO809 := n3_; have HO811 := n4_; have HB := n5_; clear n0_ n1_ n2_ n3_ n4_ n5_; (try clear hb); (try clear ho0); (try clear ho1)) | ((with_reducible refine gate_callee (f := 10) rfl ?_); refine goesL_ (some 50) rfl rfl Try.func10 (by kernel_rfl) rfl #[.slice A0 l0.length c0] rfl gA ?_; (with_reducible refine (laws_toEntryS.calls k _ _ l0 t812 _ ?side1 ?side2 A20.out).mono ?_); (case side1 => exact cB HR0); (case side2 => exact HC0.out); rintro e w35 ⟨v813, rfl, ho0, hb⟩; refine ⟨_, rfl, ?_⟩; have n0_ := Aside0.mk (Kd.R_elder' (pR HO798) (Kd.R_base ho0) hb); have n1_ := Aside0.mk (Kd.R_below (pR HO801) hb); have n2_ := Aside0.mk (Kd.R_below (pR HO804) hb); have n3_ := Aside0.mk (Kd.R_elder' (pR HO809) (Kd.R_base ho0) hb); have n4_ := Aside0.mk (Kd.R_below (pR HO811) hb); have n5_ := Aside0.mk (Kd.R_lower (Kd.R_new' (Kd.R_new' ho0 (Kd.R_lt (pR HO798))) (Kd.R_lt (pR HO809))) (below_size (w := w) bW)); have n6_ := Aside0.mk (below_step (w := w) bW hb); clear HO798; clear HO801; clear HO804; clear HO809; clear HO811; clear HB; have HO798 := n0_; have HO801 := n1_; have HO804 := n2_; have HO809 := n3_; have HO811 := n4_; have HO814 := n5_; have HB := n6_; clear n0_ n1_ n2_ n3_ n4_ n5_ n6_; (try clear hb); (try clear ho0)) | ((with_reducible refine gate_callee (f := 29) rfl ?_); refine goesL_ (some 52) rfl rfl Try.func29 (by kernel_rfl) rfl #[.slice A1 l1.length c1] rfl gA ?_; (with_reducible refine (laws_toEditS.calls k _ _ l1 t815 _ ?side1 ?side2 A21.out).mono ?_); (case side1 => exact cB HR1); (case side2 => exact HC1.out); rintro e w36 ⟨v816, rfl, ho0, hb⟩; refine ⟨_, rfl, ?_⟩; have n0_ := Aside0.mk (Kd.R_below (pR HO798) hb); have n1_ := Aside0.mk (Kd.R_elder' (pR HO801) (Kd.R_base ho0) hb); have n2_ := Aside0.mk (Kd.R_elder' (pR HO804) (Kd.R_base ho0) hb); have n3_ := Aside0.mk (Kd.R_below (pR HO809) hb); have n4_ := Aside0.mk (Kd.R_below (pR HO811) hb); have n5_ := Aside0.mk (Kd.R_below (pR HO814) hb); have n6_ := Aside0.mk (Kd.R_lower (Kd.R_new' (Kd.R_new' ho0 (Kd.R_lt (pR HO801))) (Kd.R_lt (pR HO804))) (below_size (w := w) bW)); have n7_ := Aside0.mk (below_step (w := w) bW hb); clear HO798; clear HO801; clear HO804; clear HO809; clear HO811; clear HO814; clear HB; have HO798 := n0_; have HO801 := n1_; have HO804 := n2_; have HO809 := n3_; have HO811 := n4_; have HO814 := n5_; have HO817 := n6_; have HB := n7_; clear n0_ n1_ n2_ n3_ n4_ n5_ n6_ n7_; (try clear hb); (try clear ho0)) | ((with_reducible refine gate_callee (f := 29) rfl ?_); refine goesL_ (some 54) rfl rfl Try.func29 (by kernel_rfl) rfl #[.slice A2 l2.length c2] rfl gA ?_; (with_reducible refine (laws_toEditS.calls k _ _ l2 t818 _ ?side1 ?side2 A22.out).mono ?_); (case side1 => exact cB HR2); (case side2 => exact HC2.out); rintro e w37 ⟨v819, rfl, ho0, hb⟩; refine ⟨_, rfl, ?_⟩; have n0_ := Aside0.mk (Kd.R_below (pR HO798) hb); have n1_ := Aside0.mk (Kd.R_elder' (pR HO801) (Kd.R_base ho0) hb); have n2_ := Aside0.mk (Kd.R_elder' (pR HO804) (Kd.R_base ho0) hb); have n3_ := Aside0.mk (Kd.R_below (pR HO809) hb); have n4_ := Aside0.mk (Kd.R_below (pR HO811) hb); have n5_ := Aside0.mk (Kd.R_below (pR HO814) hb); have n6_ := Aside0.mk (Kd.R_elder' (pR HO817) (Kd.R_base ho0) hb); have n7_ := Aside0.mk (Kd.R_lower (Kd.R_new' (Kd.R_new' (Kd.R_new' ho0 (Kd.R_lt (pR HO801))) (Kd.R_lt (pR HO804))) (Kd.R_lt (pR HO817))) (below_size (w := w) bW)); have n8_ := Aside0.mk (below_step (w := w) bW hb); clear HO798; clear HO801; clear HO804; clear HO809; clear HO811; clear HO814; clear HO817; clear HB; have HO798 := n0_; have HO801 := n1_; have HO804 := n2_; have HO809 := n3_; have HO811 := n4_; have HO814 := n5_; have HO817 := n6_; have HO820 := n7_; have HB := n8_; clear n0_ n1_ n2_ n3_ n4_ n5_ n6_ n7_ n8_; (try clear hb); (try clear ho0); obtain ⟨Ao38, co38, eo38⟩ := Kd.R_slice HO814.out; subst eo38; obtain ⟨Ao39, co39, eo39⟩ := Kd.R_slice HO817.out; subst eo39; obtain ⟨Ao40, co40, eo40⟩ := Kd.R_slice HO820.out; subst eo40) | ((with_reducible refine gate_callee (f := 30) rfl ?_); refine goesL_ (some 59) rfl rfl Try.func30 (by kernel_rfl) rfl #[.slice Ao38 t812.length co38, .slice Ao39 t815.length co39, .slice Ao40 t818.length co40] rfl gA ?_; (with_reducible refine (impl_MergeEdits.calls k _ _ t812 _ _ t815 _ _ t818 t821 t822 t823 _ ?side1 ?side2 ?side3 ?side4 ?side5 ?side6 A23.out).mono ?_); (case side1 => repeat (exact (Kd.R_reads' HO814.out).2.2)); (case side2 => exact (Kd.R_reads' HO814.out).2.1); (case side3 => repeat (exact (Kd.R_reads' HO817.out).2.2)); (case side4 => exact (Kd.R_reads' HO817.out).2.1); (case side5 => repeat (exact (Kd.R_reads' HO820.out).2.2)); (case side6 => exact (Kd.R_reads' HO820.out).2.1); rintro e w41 ⟨v824, v826, rfl, ho0, ho1, hb⟩; refine ⟨_, rfl, ?_⟩; have n0_ := Aside0.mk (Kd.R_elder' (pR HO798) (Kd.R_base ho0) hb); have n1_ := Aside0.mk (Kd.R_below (pR HO801) hb); have n2_ := Aside0.mk (Kd.R_below (pR HO804) hb); have n3_ := Aside0.mk (Kd.R_elder' (pR HO809) (Kd.R_base ho0) hb); have n4_ := Aside0.mk (Kd.R_elder' (pR HO811) (Kd.R_base ho1) hb); have n5_ := Aside0.mk (Kd.R_elder' (pR HO814) (Kd.R_base ho0) hb); have n6_ := Aside0.mk (Kd.R_below (pR HO817) hb); have n7_ := Aside0.mk (Kd.R_below (pR HO820) hb); have n8_ := Aside0.mk (Kd.R_lower (Kd.R_new' (Kd.R_new' (Kd.R_new' ho0 (Kd.R_lt (pR HO798))) (Kd.R_lt (pR HO809))) (Kd.R_lt (pR HO814))) (below_size (w := w) bW)); have n9_ := Aside0.mk (Kd.R_lower (Kd.R_new' ho1 (Kd.R_lt (pR HO811))) (below_size (w := w) bW)); have n10_ := Aside0.mk (below_step (w := w) bW hb); clear HO798; clear HO801; clear HO804; clear HO809; clear HO811; clear HO814; clear HO817; clear HO820; clear HB; have HO798 := n0_; have HO801 := n1_; have HO804 := n2_; have HO809 := n3_; have HO811 := n4_; have HO814 := n5_; have HO817 := n6_; have HO820 := n7_; have HO825 := n8_; have HO827 := n9_; have HB := n10_; clear n0_ n1_ n2_ n3_ n4_ n5_ n6_ n7_ n8_ n9_ n10_; (try clear hb); (try clear ho0); (try clear ho1)))
        go_cut [77] (fun v77 wc => ∃ (kq : Nat) (x77_23 : Bool), v77 = .bool x77_23 ∧ Aside0 (laws_FnExactMergeEdits.j0 kq l0 l1 l2 t805 t806 t807 t812 t815 t818 t821 t822 t823 x77_23 = some true) ∧ Aside0 (kq ≤ k) ∧ Aside0 (Kd.R k55 55 wc w.heap.size (fun k_ => some k_ ≠ ((.slice Ao38 t812.length co38) : Value).ownBlock ∧ some k_ ≠ (v824 : Value).ownBlock) v808 t805) ∧ Aside0 (Kd.R Kd.string 9 wc w.heap.size (fun k_ => some k_ ≠ (v826 : Value).ownBlock) v810 t806) ∧ Aside0 (Kd.R k55 55 wc w.heap.size (fun k_ => some k_ ≠ (v808 : Value).ownBlock ∧ some k_ ≠ (v824 : Value).ownBlock) (.slice Ao38 t812.length co38) t812) ∧ Aside0 (Kd.R k62 62 wc w.heap.size (fun k_ => some k_ ≠ ((.slice Ao40 t818.length co40) : Value).ownBlock) (.slice Ao39 t815.length co39) t815) ∧ Aside0 (Kd.R k62 62 wc w.heap.size (fun k_ => some k_ ≠ ((.slice Ao39 t815.length co39) : Value).ownBlock) (.slice Ao40 t818.length co40) t818) ∧ Aside0 (Kd.R k55 55 wc w.heap.size (fun k_ => some k_ ≠ (v808 : Value).ownBlock ∧ some k_ ≠ ((.slice Ao38 t812.length co38) : Value).ownBlock) v824 t821) ∧ Aside0 (Kd.R Kd.string 9 wc w.heap.size (fun k_ => some k_ ≠ (v810 : Value).ownBlock) v826 t822) ∧ Aside0 (Below w.heap.size w wc))
        case first =>
          have H := HC24.out
          clear HC24
          replace H := Option.bind_eq_some_iff.mp H
          obtain ⟨t828, A420, H⟩ := H
          replace H : (if t828 = true then ((laws_eqStringS.f k t822 t806).bind fun t829 => (if t829 = true then (laws_FnExactMergeEdits.j0 k l0 l1 l2 t805 t806 t807 t812 t815 t818 t821 t822 t823 (t823 != t807)) else (laws_FnExactMergeEdits.j0 k l0 l1 l2 t805 t806 t807 t812 t815 t818 t821 t822 t823 true))) else (laws_FnExactMergeEdits.j0 k l0 l1 l2 t805 t806 t807 t812 t815 t818 t821 t822 t823 true)) = some true := H
          have A42 := Aside0.mk A420
          clear A420
          by_cases c43 : t828 = true
          · subst c43
            have H1 : ((laws_eqStringS.f k t822 t806).bind fun t829 => (if t829 = true then (laws_FnExactMergeEdits.j0 k l0 l1 l2 t805 t806 t807 t812 t815 t818 t821 t822 t823 (t823 != t807)) else (laws_FnExactMergeEdits.j0 k l0 l1 l2 t805 t806 t807 t812 t815 t818 t821 t822 t823 true))) = some true := by rw [if_pos rfl] at H; exact H
            clear H
            have H := H1
            clear H1
            replace H := Option.bind_eq_some_iff.mp H
            obtain ⟨t829, A440, H⟩ := H
            replace H : (if t829 = true then (laws_FnExactMergeEdits.j0 k l0 l1 l2 t805 t806 t807 t812 t815 t818 t821 t822 t823 (t823 != t807)) else (laws_FnExactMergeEdits.j0 k l0 l1 l2 t805 t806 t807 t812 t815 t818 t821 t822 t823 true)) = some true := H
            have A44 := Aside0.mk A440
            clear A440
            by_cases c45 : t829 = true
            · subst c45
              have H1 : (laws_FnExactMergeEdits.j0 k l0 l1 l2 t805 t806 t807 t812 t815 t818 t821 t822 t823 (t823 != t807)) = some true := by rw [if_pos rfl] at H; exact H
              clear H
              have H := H1
              clear H1
              have H' := Aside0.mk H
              clear H
              obtain ⟨Ao46, co46, eo46⟩ := Kd.R_slice HO825.out
              subst eo46
              obtain ⟨Ao47, co47, eo47⟩ := Kd.R_slice HO809.out
              subst eo47
              go_wp2_with (first | ((with_reducible refine gate_callee (f := 13) rfl ?_); refine goesL_ (some 65) rfl rfl Try.func13 (by kernel_rfl) rfl #[.slice Ao46 t821.length co46, .slice Ao47 t805.length co47] rfl gA ?_; (with_reducible refine (laws_eqEntryS.calls k _ _ t821 _ _ t805 true _ ?side1 ?side2 ?side3 ?side4 A42.out).mono ?_); (case side1 => repeat (exact (Kd.R_reads' HO825.out).2.2)); (case side2 => exact (Kd.R_reads' HO825.out).2.1); (case side3 => repeat (exact (Kd.R_reads' HO809.out).2.2)); (case side4 => exact (Kd.R_reads' HO809.out).2.1); rintro e w48 ⟨rfl, hb⟩; refine ⟨_, rfl, ?_⟩; have n0_ := Aside0.mk (Kd.R_below (pR HO798) hb); have n1_ := Aside0.mk (Kd.R_below (pR HO801) hb); have n2_ := Aside0.mk (Kd.R_below (pR HO804) hb); have n3_ := Aside0.mk (Kd.R_below (pR HO809) hb); have n4_ := Aside0.mk (Kd.R_below (pR HO811) hb); have n5_ := Aside0.mk (Kd.R_below (pR HO814) hb); have n6_ := Aside0.mk (Kd.R_below (pR HO817) hb); have n7_ := Aside0.mk (Kd.R_below (pR HO820) hb); have n8_ := Aside0.mk (Kd.R_below (pR HO825) hb); have n9_ := Aside0.mk (Kd.R_below (pR HO827) hb); have n10_ := Aside0.mk (below_step (w := w) bW hb); clear HO798; clear HO801; clear HO804; clear HO809; clear HO811; clear HO814; clear HO817; clear HO820; clear HO825; clear HO827; clear HB; have HO798 := n0_; have HO801 := n1_; have HO804 := n2_; have HO809 := n3_; have HO811 := n4_; have HO814 := n5_; have HO817 := n6_; have HO820 := n7_; have HO825 := n8_; have HO827 := n9_; have HB := n10_; clear n0_ n1_ n2_ n3_ n4_ n5_ n6_ n7_ n8_ n9_ n10_; (try clear hb); obtain ⟨Ao49, co49, eo49⟩ := Kd.R_slice HO827.out; subst eo49; obtain ⟨Ao50, co50, eo50⟩ := Kd.R_slice HO811.out; subst eo50) | (go_at_call 12; (with_reducible refine (laws_eqStringS.calls k _ _ t822 _ _ t806 true _ ?side1 ?side2 ?side3 ?side4 A44.out).mono ?_); (case side1 => repeat (exact (Kd.R_reads' HO827.out).2.2)); (case side2 => exact (Kd.R_reads' HO827.out).2.1); (case side3 => repeat (exact (Kd.R_reads' HO811.out).2.2)); (case side4 => exact (Kd.R_reads' HO811.out).2.1); rintro e w' ⟨rfl, ⟨nd, rfl⟩⟩))
              go_meet
              case rel => exact ⟨_, ((t823 != t807)), vE, H', ⟨by omega⟩, ⟨by (with_reducible repeat (apply Kd.R_drewN)); exact Kd.R_mono HO809.out (fun _ hk => ⟨hk.1.2, hk.2⟩)⟩, ⟨by (with_reducible repeat (apply Kd.R_drewN)); exact Kd.R_mono HO811.out (fun _ hk => hk.2)⟩, ⟨by (with_reducible repeat (apply Kd.R_drewN)); exact Kd.R_mono HO814.out (fun _ hk => ⟨hk.1.2, hk.2⟩)⟩, ⟨by (with_reducible repeat (apply Kd.R_drewN)); exact Kd.R_mono HO817.out (fun _ hk => hk.2)⟩, ⟨by (with_reducible repeat (apply Kd.R_drewN)); exact Kd.R_mono HO820.out (fun _ hk => hk.2)⟩, ⟨by (with_reducible repeat (apply Kd.R_drewN)); exact Kd.R_mono HO825.out (fun _ hk => ⟨hk.1.2, hk.2⟩)⟩, ⟨by (with_reducible repeat (apply Kd.R_drewN)); exact Kd.R_mono HO827.out (fun _ hk => hk.2)⟩, ⟨bW⟩⟩
            · replace c45 := Bool.eq_false_iff.mpr c45
              subst c45
              have H1 : (laws_FnExactMergeEdits.j0 k l0 l1 l2 t805 t806 t807 t812 t815 t818 t821 t822 t823 true) = some true := by rw [if_neg (show ¬ (false = true) by decide)] at H; exact H
              clear H
              have H := H1
              clear H1
              have H' := Aside0.mk H
              clear H
              obtain ⟨Ao51, co51, eo51⟩ := Kd.R_slice HO825.out
              subst eo51
              obtain ⟨Ao52, co52, eo52⟩ := Kd.R_slice HO809.out
              subst eo52
              go_wp2_with (first | ((with_reducible refine gate_callee (f := 13) rfl ?_); refine goesL_ (some 65) rfl rfl Try.func13 (by kernel_rfl) rfl #[.slice Ao51 t821.length co51, .slice Ao52 t805.length co52] rfl gA ?_; (with_reducible refine (laws_eqEntryS.calls k _ _ t821 _ _ t805 true _ ?side1 ?side2 ?side3 ?side4 A42.out).mono ?_); (case side1 => repeat (exact (Kd.R_reads' HO825.out).2.2)); (case side2 => exact (Kd.R_reads' HO825.out).2.1); (case side3 => repeat (exact (Kd.R_reads' HO809.out).2.2)); (case side4 => exact (Kd.R_reads' HO809.out).2.1); rintro e w53 ⟨rfl, hb⟩; refine ⟨_, rfl, ?_⟩; have n0_ := Aside0.mk (Kd.R_below (pR HO798) hb); have n1_ := Aside0.mk (Kd.R_below (pR HO801) hb); have n2_ := Aside0.mk (Kd.R_below (pR HO804) hb); have n3_ := Aside0.mk (Kd.R_below (pR HO809) hb); have n4_ := Aside0.mk (Kd.R_below (pR HO811) hb); have n5_ := Aside0.mk (Kd.R_below (pR HO814) hb); have n6_ := Aside0.mk (Kd.R_below (pR HO817) hb); have n7_ := Aside0.mk (Kd.R_below (pR HO820) hb); have n8_ := Aside0.mk (Kd.R_below (pR HO825) hb); have n9_ := Aside0.mk (Kd.R_below (pR HO827) hb); have n10_ := Aside0.mk (below_step (w := w) bW hb); clear HO798; clear HO801; clear HO804; clear HO809; clear HO811; clear HO814; clear HO817; clear HO820; clear HO825; clear HO827; clear HB; have HO798 := n0_; have HO801 := n1_; have HO804 := n2_; have HO809 := n3_; have HO811 := n4_; have HO814 := n5_; have HO817 := n6_; have HO820 := n7_; have HO825 := n8_; have HO827 := n9_; have HB := n10_; clear n0_ n1_ n2_ n3_ n4_ n5_ n6_ n7_ n8_ n9_ n10_; (try clear hb); obtain ⟨Ao54, co54, eo54⟩ := Kd.R_slice HO827.out; subst eo54; obtain ⟨Ao55, co55, eo55⟩ := Kd.R_slice HO811.out; subst eo55) | (go_at_call 12; (with_reducible refine (laws_eqStringS.calls k _ _ t822 _ _ t806 false _ ?side1 ?side2 ?side3 ?side4 A44.out).mono ?_); (case side1 => repeat (exact (Kd.R_reads' HO827.out).2.2)); (case side2 => exact (Kd.R_reads' HO827.out).2.1); (case side3 => repeat (exact (Kd.R_reads' HO811.out).2.2)); (case side4 => exact (Kd.R_reads' HO811.out).2.1); rintro e w' ⟨rfl, ⟨nd, rfl⟩⟩))
              go_meet
              case rel => exact ⟨_, (true), vE, H', ⟨by omega⟩, ⟨by (with_reducible repeat (apply Kd.R_drewN)); exact Kd.R_mono HO809.out (fun _ hk => ⟨hk.1.2, hk.2⟩)⟩, ⟨by (with_reducible repeat (apply Kd.R_drewN)); exact Kd.R_mono HO811.out (fun _ hk => hk.2)⟩, ⟨by (with_reducible repeat (apply Kd.R_drewN)); exact Kd.R_mono HO814.out (fun _ hk => ⟨hk.1.2, hk.2⟩)⟩, ⟨by (with_reducible repeat (apply Kd.R_drewN)); exact Kd.R_mono HO817.out (fun _ hk => hk.2)⟩, ⟨by (with_reducible repeat (apply Kd.R_drewN)); exact Kd.R_mono HO820.out (fun _ hk => hk.2)⟩, ⟨by (with_reducible repeat (apply Kd.R_drewN)); exact Kd.R_mono HO825.out (fun _ hk => ⟨hk.1.2, hk.2⟩)⟩, ⟨by (with_reducible repeat (apply Kd.R_drewN)); exact Kd.R_mono HO827.out (fun _ hk => hk.2)⟩, ⟨bW⟩⟩
          · replace c43 := Bool.eq_false_iff.mpr c43
            subst c43
            have H1 : (laws_FnExactMergeEdits.j0 k l0 l1 l2 t805 t806 t807 t812 t815 t818 t821 t822 t823 true) = some true := by rw [if_neg (show ¬ (false = true) by decide)] at H; exact H
            clear H
            have H := H1
            clear H1
            have H' := Aside0.mk H
            clear H
            obtain ⟨Ao56, co56, eo56⟩ := Kd.R_slice HO825.out
            subst eo56
            obtain ⟨Ao57, co57, eo57⟩ := Kd.R_slice HO809.out
            subst eo57
            go_wp2_with (((with_reducible refine gate_callee (f := 13) rfl ?_); refine goesL_ (some 65) rfl rfl Try.func13 (by kernel_rfl) rfl #[.slice Ao56 t821.length co56, .slice Ao57 t805.length co57] rfl gA ?_; (with_reducible refine (laws_eqEntryS.calls k _ _ t821 _ _ t805 false _ ?side1 ?side2 ?side3 ?side4 A42.out).mono ?_); (case side1 => repeat (exact (Kd.R_reads' HO825.out).2.2)); (case side2 => exact (Kd.R_reads' HO825.out).2.1); (case side3 => repeat (exact (Kd.R_reads' HO809.out).2.2)); (case side4 => exact (Kd.R_reads' HO809.out).2.1); rintro e w58 ⟨rfl, hb⟩; refine ⟨_, rfl, ?_⟩; have n0_ := Aside0.mk (Kd.R_below (pR HO798) hb); have n1_ := Aside0.mk (Kd.R_below (pR HO801) hb); have n2_ := Aside0.mk (Kd.R_below (pR HO804) hb); have n3_ := Aside0.mk (Kd.R_below (pR HO809) hb); have n4_ := Aside0.mk (Kd.R_below (pR HO811) hb); have n5_ := Aside0.mk (Kd.R_below (pR HO814) hb); have n6_ := Aside0.mk (Kd.R_below (pR HO817) hb); have n7_ := Aside0.mk (Kd.R_below (pR HO820) hb); have n8_ := Aside0.mk (Kd.R_below (pR HO825) hb); have n9_ := Aside0.mk (Kd.R_below (pR HO827) hb); have n10_ := Aside0.mk (below_step (w := w) bW hb); clear HO798; clear HO801; clear HO804; clear HO809; clear HO811; clear HO814; clear HO817; clear HO820; clear HO825; clear HO827; clear HB; have HO798 := n0_; have HO801 := n1_; have HO804 := n2_; have HO809 := n3_; have HO811 := n4_; have HO814 := n5_; have HO817 := n6_; have HO820 := n7_; have HO825 := n8_; have HO827 := n9_; have HB := n10_; clear n0_ n1_ n2_ n3_ n4_ n5_ n6_ n7_ n8_ n9_ n10_; (try clear hb)))
            go_meet
            case rel => exact ⟨_, (true), vE, H', ⟨by omega⟩, ⟨by exact Kd.R_mono HO809.out (fun _ hk => ⟨hk.1.2, hk.2⟩)⟩, ⟨by exact Kd.R_mono HO811.out (fun _ hk => hk.2)⟩, ⟨by exact Kd.R_mono HO814.out (fun _ hk => ⟨hk.1.2, hk.2⟩)⟩, ⟨by exact Kd.R_mono HO817.out (fun _ hk => hk.2)⟩, ⟨by exact Kd.R_mono HO820.out (fun _ hk => hk.2)⟩, ⟨by exact Kd.R_mono HO825.out (fun _ hk => ⟨hk.1.2, hk.2⟩)⟩, ⟨by exact Kd.R_mono HO827.out (fun _ hk => hk.2)⟩, ⟨bW⟩⟩
        case rest =>
          clear HC24
          try clear c5b0
          try clear c8b0
          try clear c12b0
          obtain ⟨kq, x77_23, rfl, HA, HJ23, HO_8, HO_9, HO_11, HO_12, HO_13, HO_14, HO_15, HB⟩ := hcut
          cases kq with
          | zero => exact absurd HA.out (by simp [laws_FnExactMergeEdits.j0])
          | succ kj23 =>
            have H := HA.out
            clear HA
            simp only [laws_FnExactMergeEdits.j0] at H
            by_cases c59 : x77_23 = true
            · subst c59
              have H1 : (some false) = some true := by rw [if_pos rfl] at H; exact H
              exact absurd H1 (by simp)
            · replace c59 := Bool.eq_false_iff.mpr c59
              subst c59
              have H1 : ((laws_toEntryS.f kj23 l0).bind fun t830 => ((laws_eqEntryS.f kj23 t812 t830).bind fun t833 => (if t833 = true then ((laws_toEditS.f kj23 l1).bind fun t834 => ((laws_eqEditS.f kj23 t815 t834).bind fun t837 => (if t837 = true then ((laws_toEditS.f kj23 l2).bind fun t838 => ((laws_eqEditS.f kj23 t818 t838).bind fun t841 => (if t841 = true then ((laws_markEntryS.f kj23 t812 1).bind fun bt842 => ((laws_markEditS.f kj23 t815 bt842.1).bind fun bt844 => ((laws_markEditS.f kj23 t818 bt844.1).bind fun bt846 => (if bt846.1 < 0 then (laws_FnExactMergeEdits.j1 kj23 l0 l1 l2 t805 t806 t807 t821 t822 true) else ((laws_eqEntryS.f kj23 t821 t805).bind fun t848 => (if t848 = true then ((laws_eqStringS.f kj23 t822 t806).bind fun t849 => (if t849 = true then (laws_FnExactMergeEdits.j1 kj23 l0 l1 l2 t805 t806 t807 t821 t822 (t823 != t807)) else (laws_FnExactMergeEdits.j1 kj23 l0 l1 l2 t805 t806 t807 t821 t822 true))) else (laws_FnExactMergeEdits.j1 kj23 l0 l1 l2 t805 t806 t807 t821 t822 true))))))) else (some false)))) else (some false)))) else (some false)))) = some true := by rw [if_neg (show ¬ (false = true) by decide)] at H; exact H
              clear H
              have H := H1
              clear H1
              replace H := Option.bind_eq_some_iff.mp H
              obtain ⟨t830, A600, H⟩ := H
              replace H : ((laws_eqEntryS.f kj23 t812 t830).bind fun t833 => (if t833 = true then ((laws_toEditS.f kj23 l1).bind fun t834 => ((laws_eqEditS.f kj23 t815 t834).bind fun t837 => (if t837 = true then ((laws_toEditS.f kj23 l2).bind fun t838 => ((laws_eqEditS.f kj23 t818 t838).bind fun t841 => (if t841 = true then ((laws_markEntryS.f kj23 t812 1).bind fun bt842 => ((laws_markEditS.f kj23 t815 bt842.1).bind fun bt844 => ((laws_markEditS.f kj23 t818 bt844.1).bind fun bt846 => (if bt846.1 < 0 then (laws_FnExactMergeEdits.j1 kj23 l0 l1 l2 t805 t806 t807 t821 t822 true) else ((laws_eqEntryS.f kj23 t821 t805).bind fun t848 => (if t848 = true then ((laws_eqStringS.f kj23 t822 t806).bind fun t849 => (if t849 = true then (laws_FnExactMergeEdits.j1 kj23 l0 l1 l2 t805 t806 t807 t821 t822 (t823 != t807)) else (laws_FnExactMergeEdits.j1 kj23 l0 l1 l2 t805 t806 t807 t821 t822 true))) else (laws_FnExactMergeEdits.j1 kj23 l0 l1 l2 t805 t806 t807 t821 t822 true))))))) else (some false)))) else (some false)))) else (some false))) = some true := H
              have A60 := Aside0.mk A600
              clear A600
              replace H := Option.bind_eq_some_iff.mp H
              obtain ⟨t833, A610, H⟩ := H
              replace H : (if t833 = true then ((laws_toEditS.f kj23 l1).bind fun t834 => ((laws_eqEditS.f kj23 t815 t834).bind fun t837 => (if t837 = true then ((laws_toEditS.f kj23 l2).bind fun t838 => ((laws_eqEditS.f kj23 t818 t838).bind fun t841 => (if t841 = true then ((laws_markEntryS.f kj23 t812 1).bind fun bt842 => ((laws_markEditS.f kj23 t815 bt842.1).bind fun bt844 => ((laws_markEditS.f kj23 t818 bt844.1).bind fun bt846 => (if bt846.1 < 0 then (laws_FnExactMergeEdits.j1 kj23 l0 l1 l2 t805 t806 t807 t821 t822 true) else ((laws_eqEntryS.f kj23 t821 t805).bind fun t848 => (if t848 = true then ((laws_eqStringS.f kj23 t822 t806).bind fun t849 => (if t849 = true then (laws_FnExactMergeEdits.j1 kj23 l0 l1 l2 t805 t806 t807 t821 t822 (t823 != t807)) else (laws_FnExactMergeEdits.j1 kj23 l0 l1 l2 t805 t806 t807 t821 t822 true))) else (laws_FnExactMergeEdits.j1 kj23 l0 l1 l2 t805 t806 t807 t821 t822 true))))))) else (some false)))) else (some false)))) else (some false)) = some true := H
              have A61 := Aside0.mk A610
              clear A610
              by_cases c62 : t833 = true
              · subst c62
                have H1 : ((laws_toEditS.f kj23 l1).bind fun t834 => ((laws_eqEditS.f kj23 t815 t834).bind fun t837 => (if t837 = true then ((laws_toEditS.f kj23 l2).bind fun t838 => ((laws_eqEditS.f kj23 t818 t838).bind fun t841 => (if t841 = true then ((laws_markEntryS.f kj23 t812 1).bind fun bt842 => ((laws_markEditS.f kj23 t815 bt842.1).bind fun bt844 => ((laws_markEditS.f kj23 t818 bt844.1).bind fun bt846 => (if bt846.1 < 0 then (laws_FnExactMergeEdits.j1 kj23 l0 l1 l2 t805 t806 t807 t821 t822 true) else ((laws_eqEntryS.f kj23 t821 t805).bind fun t848 => (if t848 = true then ((laws_eqStringS.f kj23 t822 t806).bind fun t849 => (if t849 = true then (laws_FnExactMergeEdits.j1 kj23 l0 l1 l2 t805 t806 t807 t821 t822 (t823 != t807)) else (laws_FnExactMergeEdits.j1 kj23 l0 l1 l2 t805 t806 t807 t821 t822 true))) else (laws_FnExactMergeEdits.j1 kj23 l0 l1 l2 t805 t806 t807 t821 t822 true))))))) else (some false)))) else (some false)))) = some true := by rw [if_pos rfl] at H; exact H
                clear H
                have H := H1
                clear H1
                replace H := Option.bind_eq_some_iff.mp H
                obtain ⟨t834, A630, H⟩ := H
                replace H : ((laws_eqEditS.f kj23 t815 t834).bind fun t837 => (if t837 = true then ((laws_toEditS.f kj23 l2).bind fun t838 => ((laws_eqEditS.f kj23 t818 t838).bind fun t841 => (if t841 = true then ((laws_markEntryS.f kj23 t812 1).bind fun bt842 => ((laws_markEditS.f kj23 t815 bt842.1).bind fun bt844 => ((laws_markEditS.f kj23 t818 bt844.1).bind fun bt846 => (if bt846.1 < 0 then (laws_FnExactMergeEdits.j1 kj23 l0 l1 l2 t805 t806 t807 t821 t822 true) else ((laws_eqEntryS.f kj23 t821 t805).bind fun t848 => (if t848 = true then ((laws_eqStringS.f kj23 t822 t806).bind fun t849 => (if t849 = true then (laws_FnExactMergeEdits.j1 kj23 l0 l1 l2 t805 t806 t807 t821 t822 (t823 != t807)) else (laws_FnExactMergeEdits.j1 kj23 l0 l1 l2 t805 t806 t807 t821 t822 true))) else (laws_FnExactMergeEdits.j1 kj23 l0 l1 l2 t805 t806 t807 t821 t822 true))))))) else (some false)))) else (some false))) = some true := H
                have A63 := Aside0.mk A630
                clear A630
                replace H := Option.bind_eq_some_iff.mp H
                obtain ⟨t837, A640, H⟩ := H
                replace H : (if t837 = true then ((laws_toEditS.f kj23 l2).bind fun t838 => ((laws_eqEditS.f kj23 t818 t838).bind fun t841 => (if t841 = true then ((laws_markEntryS.f kj23 t812 1).bind fun bt842 => ((laws_markEditS.f kj23 t815 bt842.1).bind fun bt844 => ((laws_markEditS.f kj23 t818 bt844.1).bind fun bt846 => (if bt846.1 < 0 then (laws_FnExactMergeEdits.j1 kj23 l0 l1 l2 t805 t806 t807 t821 t822 true) else ((laws_eqEntryS.f kj23 t821 t805).bind fun t848 => (if t848 = true then ((laws_eqStringS.f kj23 t822 t806).bind fun t849 => (if t849 = true then (laws_FnExactMergeEdits.j1 kj23 l0 l1 l2 t805 t806 t807 t821 t822 (t823 != t807)) else (laws_FnExactMergeEdits.j1 kj23 l0 l1 l2 t805 t806 t807 t821 t822 true))) else (laws_FnExactMergeEdits.j1 kj23 l0 l1 l2 t805 t806 t807 t821 t822 true))))))) else (some false)))) else (some false)) = some true := H
                have A64 := Aside0.mk A640
                clear A640
                by_cases c65 : t837 = true
                · subst c65
                  have H1 : ((laws_toEditS.f kj23 l2).bind fun t838 => ((laws_eqEditS.f kj23 t818 t838).bind fun t841 => (if t841 = true then ((laws_markEntryS.f kj23 t812 1).bind fun bt842 => ((laws_markEditS.f kj23 t815 bt842.1).bind fun bt844 => ((laws_markEditS.f kj23 t818 bt844.1).bind fun bt846 => (if bt846.1 < 0 then (laws_FnExactMergeEdits.j1 kj23 l0 l1 l2 t805 t806 t807 t821 t822 true) else ((laws_eqEntryS.f kj23 t821 t805).bind fun t848 => (if t848 = true then ((laws_eqStringS.f kj23 t822 t806).bind fun t849 => (if t849 = true then (laws_FnExactMergeEdits.j1 kj23 l0 l1 l2 t805 t806 t807 t821 t822 (t823 != t807)) else (laws_FnExactMergeEdits.j1 kj23 l0 l1 l2 t805 t806 t807 t821 t822 true))) else (laws_FnExactMergeEdits.j1 kj23 l0 l1 l2 t805 t806 t807 t821 t822 true))))))) else (some false)))) = some true := by rw [if_pos rfl] at H; exact H
                  clear H
                  have H := H1
                  clear H1
                  replace H := Option.bind_eq_some_iff.mp H
                  obtain ⟨t838, A660, H⟩ := H
                  replace H : ((laws_eqEditS.f kj23 t818 t838).bind fun t841 => (if t841 = true then ((laws_markEntryS.f kj23 t812 1).bind fun bt842 => ((laws_markEditS.f kj23 t815 bt842.1).bind fun bt844 => ((laws_markEditS.f kj23 t818 bt844.1).bind fun bt846 => (if bt846.1 < 0 then (laws_FnExactMergeEdits.j1 kj23 l0 l1 l2 t805 t806 t807 t821 t822 true) else ((laws_eqEntryS.f kj23 t821 t805).bind fun t848 => (if t848 = true then ((laws_eqStringS.f kj23 t822 t806).bind fun t849 => (if t849 = true then (laws_FnExactMergeEdits.j1 kj23 l0 l1 l2 t805 t806 t807 t821 t822 (t823 != t807)) else (laws_FnExactMergeEdits.j1 kj23 l0 l1 l2 t805 t806 t807 t821 t822 true))) else (laws_FnExactMergeEdits.j1 kj23 l0 l1 l2 t805 t806 t807 t821 t822 true))))))) else (some false))) = some true := H
                  have A66 := Aside0.mk A660
                  clear A660
                  replace H := Option.bind_eq_some_iff.mp H
                  obtain ⟨t841, A670, H⟩ := H
                  replace H : (if t841 = true then ((laws_markEntryS.f kj23 t812 1).bind fun bt842 => ((laws_markEditS.f kj23 t815 bt842.1).bind fun bt844 => ((laws_markEditS.f kj23 t818 bt844.1).bind fun bt846 => (if bt846.1 < 0 then (laws_FnExactMergeEdits.j1 kj23 l0 l1 l2 t805 t806 t807 t821 t822 true) else ((laws_eqEntryS.f kj23 t821 t805).bind fun t848 => (if t848 = true then ((laws_eqStringS.f kj23 t822 t806).bind fun t849 => (if t849 = true then (laws_FnExactMergeEdits.j1 kj23 l0 l1 l2 t805 t806 t807 t821 t822 (t823 != t807)) else (laws_FnExactMergeEdits.j1 kj23 l0 l1 l2 t805 t806 t807 t821 t822 true))) else (laws_FnExactMergeEdits.j1 kj23 l0 l1 l2 t805 t806 t807 t821 t822 true))))))) else (some false)) = some true := H
                  have A67 := Aside0.mk A670
                  clear A670
                  by_cases c68 : t841 = true
                  · subst c68
                    have H1 : ((laws_markEntryS.f kj23 t812 1).bind fun bt842 => ((laws_markEditS.f kj23 t815 bt842.1).bind fun bt844 => ((laws_markEditS.f kj23 t818 bt844.1).bind fun bt846 => (if bt846.1 < 0 then (laws_FnExactMergeEdits.j1 kj23 l0 l1 l2 t805 t806 t807 t821 t822 true) else ((laws_eqEntryS.f kj23 t821 t805).bind fun t848 => (if t848 = true then ((laws_eqStringS.f kj23 t822 t806).bind fun t849 => (if t849 = true then (laws_FnExactMergeEdits.j1 kj23 l0 l1 l2 t805 t806 t807 t821 t822 (t823 != t807)) else (laws_FnExactMergeEdits.j1 kj23 l0 l1 l2 t805 t806 t807 t821 t822 true))) else (laws_FnExactMergeEdits.j1 kj23 l0 l1 l2 t805 t806 t807 t821 t822 true))))))) = some true := by rw [if_pos rfl] at H; exact H
                    clear H
                    have H := H1
                    clear H1
                    replace H := Option.bind_eq_some_iff.mp H
                    obtain ⟨⟨t842, t843⟩, A690, H⟩ := H
                    replace H : ((laws_markEditS.f kj23 t815 t842).bind fun bt844 => ((laws_markEditS.f kj23 t818 bt844.1).bind fun bt846 => (if bt846.1 < 0 then (laws_FnExactMergeEdits.j1 kj23 l0 l1 l2 t805 t806 t807 t821 t822 true) else ((laws_eqEntryS.f kj23 t821 t805).bind fun t848 => (if t848 = true then ((laws_eqStringS.f kj23 t822 t806).bind fun t849 => (if t849 = true then (laws_FnExactMergeEdits.j1 kj23 l0 l1 l2 t805 t806 t807 t821 t822 (t823 != t807)) else (laws_FnExactMergeEdits.j1 kj23 l0 l1 l2 t805 t806 t807 t821 t822 true))) else (laws_FnExactMergeEdits.j1 kj23 l0 l1 l2 t805 t806 t807 t821 t822 true)))))) = some true := H
                    have A69 := Aside0.mk A690
                    clear A690
                    replace H := Option.bind_eq_some_iff.mp H
                    obtain ⟨⟨t844, t845⟩, A700, H⟩ := H
                    replace H : ((laws_markEditS.f kj23 t818 t844).bind fun bt846 => (if bt846.1 < 0 then (laws_FnExactMergeEdits.j1 kj23 l0 l1 l2 t805 t806 t807 t821 t822 true) else ((laws_eqEntryS.f kj23 t821 t805).bind fun t848 => (if t848 = true then ((laws_eqStringS.f kj23 t822 t806).bind fun t849 => (if t849 = true then (laws_FnExactMergeEdits.j1 kj23 l0 l1 l2 t805 t806 t807 t821 t822 (t823 != t807)) else (laws_FnExactMergeEdits.j1 kj23 l0 l1 l2 t805 t806 t807 t821 t822 true))) else (laws_FnExactMergeEdits.j1 kj23 l0 l1 l2 t805 t806 t807 t821 t822 true))))) = some true := H
                    have A70 := Aside0.mk A700
                    clear A700
                    replace H := Option.bind_eq_some_iff.mp H
                    obtain ⟨⟨t846, t847⟩, A710, H⟩ := H
                    replace H : (if t846 < 0 then (laws_FnExactMergeEdits.j1 kj23 l0 l1 l2 t805 t806 t807 t821 t822 true) else ((laws_eqEntryS.f kj23 t821 t805).bind fun t848 => (if t848 = true then ((laws_eqStringS.f kj23 t822 t806).bind fun t849 => (if t849 = true then (laws_FnExactMergeEdits.j1 kj23 l0 l1 l2 t805 t806 t807 t821 t822 (t823 != t807)) else (laws_FnExactMergeEdits.j1 kj23 l0 l1 l2 t805 t806 t807 t821 t822 true))) else (laws_FnExactMergeEdits.j1 kj23 l0 l1 l2 t805 t806 t807 t821 t822 true)))) = some true := H
                    have A71 := Aside0.mk A710
                    clear A710
                    have HC72 := Aside0.mk H
                    clear H
                    go_upto_region 28 with (first | ((with_reducible refine gate_callee (f := 10) rfl ?_); refine goesL_ (some 80) rfl rfl Try.func10 (by kernel_rfl) rfl #[.slice A0 l0.length c0] rfl gA ?_; (with_reducible refine (laws_toEntryS.calls kj23 _ _ l0 t830 _ ?side1 ?side2 A60.out).mono ?_); (case side1 => exact cB HR0); (case side2 => exact HC0.out); rintro e w73 ⟨v831, rfl, ho0, hb⟩; refine ⟨_, rfl, ?_⟩; have n0_ := Aside0.mk (Kd.R_elder' (pR HO_8) (Kd.R_base ho0) hb); have n1_ := Aside0.mk (Kd.R_below (pR HO_9) hb); have n2_ := Aside0.mk (Kd.R_elder' (pR HO_11) (Kd.R_base ho0) hb); have n3_ := Aside0.mk (Kd.R_below (pR HO_12) hb); have n4_ := Aside0.mk (Kd.R_below (pR HO_13) hb); have n5_ := Aside0.mk (Kd.R_elder' (pR HO_14) (Kd.R_base ho0) hb); have n6_ := Aside0.mk (Kd.R_below (pR HO_15) hb); have n7_ := Aside0.mk (Kd.R_lower (Kd.R_new' (Kd.R_new' (Kd.R_new' ho0 (Kd.R_lt (pR HO_8))) (Kd.R_lt (pR HO_11))) (Kd.R_lt (pR HO_14))) (below_size (w := w) bW)); have n8_ := Aside0.mk (below_step (w := w) bW hb); clear HO_8; clear HO_9; clear HO_11; clear HO_12; clear HO_13; clear HO_14; clear HO_15; clear HB; have HO_8 := n0_; have HO_9 := n1_; have HO_11 := n2_; have HO_12 := n3_; have HO_13 := n4_; have HO_14 := n5_; have HO_15 := n6_; have HO832 := n7_; have HB := n8_; clear n0_ n1_ n2_ n3_ n4_ n5_ n6_ n7_ n8_; (try clear hb); (try clear ho0); obtain ⟨Ao74, co74, eo74⟩ := Kd.R_slice HO832.out; subst eo74) | ((with_reducible refine gate_callee (f := 13) rfl ?_); refine goesL_ (some 81) rfl rfl Try.func13 (by kernel_rfl) rfl #[.slice Ao38 t812.length co38, .slice Ao74 t830.length co74] rfl gA ?_; (with_reducible refine (laws_eqEntryS.calls kj23 _ _ t812 _ _ t830 true _ ?side1 ?side2 ?side3 ?side4 A61.out).mono ?_); (case side1 => repeat (exact (Kd.R_reads' HO_11.out).2.2)); (case side2 => exact (Kd.R_reads' HO_11.out).2.1); (case side3 => repeat (exact (Kd.R_reads' HO832.out).2.2)); (case side4 => exact (Kd.R_reads' HO832.out).2.1); rintro e w75 ⟨rfl, hb⟩; refine ⟨_, rfl, ?_⟩; have n0_ := Aside0.mk (Kd.R_below (pR HO_8) hb); have n1_ := Aside0.mk (Kd.R_below (pR HO_9) hb); have n2_ := Aside0.mk (Kd.R_below (pR HO_11) hb); have n3_ := Aside0.mk (Kd.R_below (pR HO_12) hb); have n4_ := Aside0.mk (Kd.R_below (pR HO_13) hb); have n5_ := Aside0.mk (Kd.R_below (pR HO_14) hb); have n6_ := Aside0.mk (Kd.R_below (pR HO_15) hb); have n7_ := Aside0.mk (Kd.R_below (pR HO832) hb); have n8_ := Aside0.mk (below_step (w := w) bW hb); clear HO_8; clear HO_9; clear HO_11; clear HO_12; clear HO_13; clear HO_14; clear HO_15; clear HO832; clear HB; have HO_8 := n0_; have HO_9 := n1_; have HO_11 := n2_; have HO_12 := n3_; have HO_13 := n4_; have HO_14 := n5_; have HO_15 := n6_; have HO832 := n7_; have HB := n8_; clear n0_ n1_ n2_ n3_ n4_ n5_ n6_ n7_ n8_; (try clear hb)) | ((with_reducible refine gate_callee (f := 29) rfl ?_); refine goesL_ (some 85) rfl rfl Try.func29 (by kernel_rfl) rfl #[.slice A1 l1.length c1] rfl gA ?_; (with_reducible refine (laws_toEditS.calls kj23 _ _ l1 t834 _ ?side1 ?side2 A63.out).mono ?_); (case side1 => exact cB HR1); (case side2 => exact HC1.out); rintro e w76 ⟨v835, rfl, ho0, hb⟩; refine ⟨_, rfl, ?_⟩; have n0_ := Aside0.mk (Kd.R_below (pR HO_8) hb); have n1_ := Aside0.mk (Kd.R_below (pR HO_9) hb); have n2_ := Aside0.mk (Kd.R_below (pR HO_11) hb); have n3_ := Aside0.mk (Kd.R_elder' (pR HO_12) (Kd.R_base ho0) hb); have n4_ := Aside0.mk (Kd.R_elder' (pR HO_13) (Kd.R_base ho0) hb); have n5_ := Aside0.mk (Kd.R_below (pR HO_14) hb); have n6_ := Aside0.mk (Kd.R_below (pR HO_15) hb); have n7_ := Aside0.mk (Kd.R_below (pR HO832) hb); have n8_ := Aside0.mk (Kd.R_lower (Kd.R_new' (Kd.R_new' ho0 (Kd.R_lt (pR HO_12))) (Kd.R_lt (pR HO_13))) (below_size (w := w) bW)); have n9_ := Aside0.mk (below_step (w := w) bW hb); clear HO_8; clear HO_9; clear HO_11; clear HO_12; clear HO_13; clear HO_14; clear HO_15; clear HO832; clear HB; have HO_8 := n0_; have HO_9 := n1_; have HO_11 := n2_; have HO_12 := n3_; have HO_13 := n4_; have HO_14 := n5_; have HO_15 := n6_; have HO832 := n7_; have HO836 := n8_; have HB := n9_; clear n0_ n1_ n2_ n3_ n4_ n5_ n6_ n7_ n8_ n9_; (try clear hb); (try clear ho0); obtain ⟨Ao77, co77, eo77⟩ := Kd.R_slice HO836.out; subst eo77) | ((with_reducible refine gate_callee (f := 19) rfl ?_); refine goesL_ (some 86) rfl rfl Try.func19 (by kernel_rfl) rfl #[.slice Ao39 t815.length co39, .slice Ao77 t834.length co77] rfl gA ?_; (with_reducible refine (laws_eqEditS.calls kj23 _ _ t815 _ _ t834 true _ ?side1 ?side2 ?side3 ?side4 A64.out).mono ?_); (case side1 => repeat (exact (Kd.R_reads' HO_12.out).2.2)); (case side2 => exact (Kd.R_reads' HO_12.out).2.1); (case side3 => repeat (exact (Kd.R_reads' HO836.out).2.2)); (case side4 => exact (Kd.R_reads' HO836.out).2.1); rintro e w78 ⟨rfl, hb⟩; refine ⟨_, rfl, ?_⟩; have n0_ := Aside0.mk (Kd.R_below (pR HO_8) hb); have n1_ := Aside0.mk (Kd.R_below (pR HO_9) hb); have n2_ := Aside0.mk (Kd.R_below (pR HO_11) hb); have n3_ := Aside0.mk (Kd.R_below (pR HO_12) hb); have n4_ := Aside0.mk (Kd.R_below (pR HO_13) hb); have n5_ := Aside0.mk (Kd.R_below (pR HO_14) hb); have n6_ := Aside0.mk (Kd.R_below (pR HO_15) hb); have n7_ := Aside0.mk (Kd.R_below (pR HO832) hb); have n8_ := Aside0.mk (Kd.R_below (pR HO836) hb); have n9_ := Aside0.mk (below_step (w := w) bW hb); clear HO_8; clear HO_9; clear HO_11; clear HO_12; clear HO_13; clear HO_14; clear HO_15; clear HO832; clear HO836; clear HB; have HO_8 := n0_; have HO_9 := n1_; have HO_11 := n2_; have HO_12 := n3_; have HO_13 := n4_; have HO_14 := n5_; have HO_15 := n6_; have HO832 := n7_; have HO836 := n8_; have HB := n9_; clear n0_ n1_ n2_ n3_ n4_ n5_ n6_ n7_ n8_ n9_; (try clear hb)) | ((with_reducible refine gate_callee (f := 29) rfl ?_); refine goesL_ (some 90) rfl rfl Try.func29 (by kernel_rfl) rfl #[.slice A2 l2.length c2] rfl gA ?_; (with_reducible refine (laws_toEditS.calls kj23 _ _ l2 t838 _ ?side1 ?side2 A66.out).mono ?_); (case side1 => exact cB HR2); (case side2 => exact HC2.out); rintro e w79 ⟨v839, rfl, ho0, hb⟩; refine ⟨_, rfl, ?_⟩; have n0_ := Aside0.mk (Kd.R_below (pR HO_8) hb); have n1_ := Aside0.mk (Kd.R_below (pR HO_9) hb); have n2_ := Aside0.mk (Kd.R_below (pR HO_11) hb); have n3_ := Aside0.mk (Kd.R_elder' (pR HO_12) (Kd.R_base ho0) hb); have n4_ := Aside0.mk (Kd.R_elder' (pR HO_13) (Kd.R_base ho0) hb); have n5_ := Aside0.mk (Kd.R_below (pR HO_14) hb); have n6_ := Aside0.mk (Kd.R_below (pR HO_15) hb); have n7_ := Aside0.mk (Kd.R_below (pR HO832) hb); have n8_ := Aside0.mk (Kd.R_elder' (pR HO836) (Kd.R_base ho0) hb); have n9_ := Aside0.mk (Kd.R_lower (Kd.R_new' (Kd.R_new' (Kd.R_new' ho0 (Kd.R_lt (pR HO_12))) (Kd.R_lt (pR HO_13))) (Kd.R_lt (pR HO836))) (below_size (w := w) bW)); have n10_ := Aside0.mk (below_step (w := w) bW hb); clear HO_8; clear HO_9; clear HO_11; clear HO_12; clear HO_13; clear HO_14; clear HO_15; clear HO832; clear HO836; clear HB; have HO_8 := n0_; have HO_9 := n1_; have HO_11 := n2_; have HO_12 := n3_; have HO_13 := n4_; have HO_14 := n5_; have HO_15 := n6_; have HO832 := n7_; have HO836 := n8_; have HO840 := n9_; have HB := n10_; clear n0_ n1_ n2_ n3_ n4_ n5_ n6_ n7_ n8_ n9_ n10_; (try clear hb); (try clear ho0); obtain ⟨Ao80, co80, eo80⟩ := Kd.R_slice HO840.out; subst eo80) | ((with_reducible refine gate_callee (f := 19) rfl ?_); refine goesL_ (some 91) rfl rfl Try.func19 (by kernel_rfl) rfl #[.slice Ao40 t818.length co40, .slice Ao80 t838.length co80] rfl gA ?_; (with_reducible refine (laws_eqEditS.calls kj23 _ _ t818 _ _ t838 true _ ?side1 ?side2 ?side3 ?side4 A67.out).mono ?_); (case side1 => repeat (exact (Kd.R_reads' HO_13.out).2.2)); (case side2 => exact (Kd.R_reads' HO_13.out).2.1); (case side3 => repeat (exact (Kd.R_reads' HO840.out).2.2)); (case side4 => exact (Kd.R_reads' HO840.out).2.1); rintro e w81 ⟨rfl, hb⟩; refine ⟨_, rfl, ?_⟩; have n0_ := Aside0.mk (Kd.R_below (pR HO_8) hb); have n1_ := Aside0.mk (Kd.R_below (pR HO_9) hb); have n2_ := Aside0.mk (Kd.R_below (pR HO_11) hb); have n3_ := Aside0.mk (Kd.R_below (pR HO_12) hb); have n4_ := Aside0.mk (Kd.R_below (pR HO_13) hb); have n5_ := Aside0.mk (Kd.R_below (pR HO_14) hb); have n6_ := Aside0.mk (Kd.R_below (pR HO_15) hb); have n7_ := Aside0.mk (Kd.R_below (pR HO832) hb); have n8_ := Aside0.mk (Kd.R_below (pR HO836) hb); have n9_ := Aside0.mk (Kd.R_below (pR HO840) hb); have n10_ := Aside0.mk (below_step (w := w) bW hb); clear HO_8; clear HO_9; clear HO_11; clear HO_12; clear HO_13; clear HO_14; clear HO_15; clear HO832; clear HO836; clear HO840; clear HB; have HO_8 := n0_; have HO_9 := n1_; have HO_11 := n2_; have HO_12 := n3_; have HO_13 := n4_; have HO_14 := n5_; have HO_15 := n6_; have HO832 := n7_; have HO836 := n8_; have HO840 := n9_; have HB := n10_; clear n0_ n1_ n2_ n3_ n4_ n5_ n6_ n7_ n8_ n9_ n10_; (try clear hb)) | ((with_reducible refine gate_callee (f := 14) rfl ?_); refine goesL_ (some 95) rfl rfl Try.func14 (by kernel_rfl) rfl #[.slice Ao38 t812.length co38, .int .i64 1] rfl gA ?_; (with_reducible refine (laws_markEntryS.calls kj23 (fun k_ => some k_ = (.slice Ao38 t812.length co38 : Value).ownBlock) (.slice Ao38 t812.length co38) t812 1 t842 t843 w _ ?side1 ?side2 A69.out).mono ?_); (case side1 => repeat ((with_reducible exact HB.out))); (case side2 => exact Kd.R_tight rfl HO_11.out); rintro e w82 ⟨rfl, hy0, hb, hkp⟩; refine ⟨_, rfl, ?_⟩; have n0_ := Aside0.mk (Kd.R_mono (ok' := fun k_ => some k_ ≠ (.slice Ao38 t812.length co38 : Value).ownBlock ∧ some k_ ≠ (v824 : Value).ownBlock ∧ some k_ ≠ (.slice Ao74 t830.length co74 : Value).ownBlock) (Kd.R_keptB (HO_8.out) hkp (fun k_ hk_ hs_ => (hk_.1.1) hs_)) (fun k_ hk_ => ⟨hk_.1.1.1, hk_.1.1.2, hk_.1.2⟩)); have n1_ := Aside0.mk (Kd.R_mono (ok' := fun k_ => some k_ ≠ (v826 : Value).ownBlock) (Kd.R_keptB ((Kd.R_apart' HO_9.out (Kd.R_typed HO_11.out) (by decide))) hkp (fun k_ hk_ hs_ => (hk_.2) hs_)) (fun k_ hk_ => hk_.1.1)); have n2_ := Aside0.mk (Kd.R_reok rfl hy0 (fun k_ e_ => HO_11.out.1 k_ e_)); have n3_ := Aside0.mk (Kd.R_mono (ok' := fun k_ => some k_ ≠ (.slice Ao40 t818.length co40 : Value).ownBlock ∧ some k_ ≠ (.slice Ao77 t834.length co77 : Value).ownBlock ∧ some k_ ≠ (.slice Ao80 t838.length co80 : Value).ownBlock) (Kd.R_keptB ((Kd.R_apart' HO_12.out (Kd.R_typed HO_11.out) (by decide))) hkp (fun k_ hk_ hs_ => (hk_.2) hs_)) (fun k_ hk_ => ⟨hk_.1.1.1.1, hk_.1.1.1.2, hk_.1.1.2⟩)); have n4_ := Aside0.mk (Kd.R_mono (ok' := fun k_ => some k_ ≠ (.slice Ao39 t815.length co39 : Value).ownBlock ∧ some k_ ≠ (.slice Ao77 t834.length co77 : Value).ownBlock ∧ some k_ ≠ (.slice Ao80 t838.length co80 : Value).ownBlock) (Kd.R_keptB ((Kd.R_apart' HO_13.out (Kd.R_typed HO_11.out) (by decide))) hkp (fun k_ hk_ hs_ => (hk_.2) hs_)) (fun k_ hk_ => ⟨hk_.1.1.1.1, hk_.1.1.1.2, hk_.1.1.2⟩)); have n5_ := Aside0.mk (Kd.R_mono (ok' := fun k_ => some k_ ≠ (v808 : Value).ownBlock ∧ some k_ ≠ (.slice Ao38 t812.length co38 : Value).ownBlock ∧ some k_ ≠ (.slice Ao74 t830.length co74 : Value).ownBlock) (Kd.R_keptB (HO_14.out) hkp (fun k_ hk_ hs_ => (hk_.1.2) hs_)) (fun k_ hk_ => ⟨hk_.1.1.1, hk_.1.1.2, hk_.1.2⟩)); have n6_ := Aside0.mk (Kd.R_mono (ok' := fun k_ => some k_ ≠ (v810 : Value).ownBlock) (Kd.R_keptB ((Kd.R_apart' HO_15.out (Kd.R_typed HO_11.out) (by decide))) hkp (fun k_ hk_ hs_ => (hk_.2) hs_)) (fun k_ hk_ => hk_.1.1)); have n7_ := Aside0.mk (Kd.R_mono (ok' := fun k_ => some k_ ≠ (v808 : Value).ownBlock ∧ some k_ ≠ (.slice Ao38 t812.length co38 : Value).ownBlock ∧ some k_ ≠ (v824 : Value).ownBlock) (Kd.R_keptB (HO832.out) hkp (fun k_ hk_ hs_ => (hk_.1.2) hs_)) (fun k_ hk_ => ⟨hk_.1.1.1.2, hk_.1.1.2, hk_.1.2⟩)); have n8_ := Aside0.mk (Kd.R_mono (ok' := fun k_ => some k_ ≠ (.slice Ao39 t815.length co39 : Value).ownBlock ∧ some k_ ≠ (.slice Ao40 t818.length co40 : Value).ownBlock ∧ some k_ ≠ (.slice Ao80 t838.length co80 : Value).ownBlock) (Kd.R_keptB ((Kd.R_apart' HO836.out (Kd.R_typed HO_11.out) (by decide))) hkp (fun k_ hk_ hs_ => (hk_.2) hs_)) (fun k_ hk_ => ⟨hk_.1.1.1.1.2, hk_.1.1.1.2, hk_.1.1.2⟩)); have n9_ := Aside0.mk (Kd.R_mono (ok' := fun k_ => some k_ ≠ (.slice Ao39 t815.length co39 : Value).ownBlock ∧ some k_ ≠ (.slice Ao40 t818.length co40 : Value).ownBlock ∧ some k_ ≠ (.slice Ao77 t834.length co77 : Value).ownBlock) (Kd.R_keptB ((Kd.R_apart' HO840.out (Kd.R_typed HO_11.out) (by decide))) hkp (fun k_ hk_ hs_ => (hk_.2) hs_)) (fun k_ hk_ => ⟨hk_.1.1.1.1.2, hk_.1.1.1.2, hk_.1.1.2⟩)); have n10_ := Aside0.mk (hb); clear HO_8; clear HO_9; clear HO_11; clear HO_12; clear HO_13; clear HO_14; clear HO_15; clear HO832; clear HO836; clear HO840; clear HB; have HO_8 := n0_; have HO_9 := n1_; have HO_11 := n2_; have HO_12 := n3_; have HO_13 := n4_; have HO_14 := n5_; have HO_15 := n6_; have HO832 := n7_; have HO836 := n8_; have HO840 := n9_; have HB := n10_; clear n0_ n1_ n2_ n3_ n4_ n5_ n6_ n7_ n8_ n9_ n10_; (try clear hb); (try clear hkp); (try clear hy0)) | ((with_reducible refine gate_callee (f := 20) rfl ?_); refine goesL_ (some 98) rfl rfl Try.func20 (by kernel_rfl) rfl #[.slice Ao39 t815.length co39, .int .i64 t842] rfl gA ?_; (with_reducible refine (laws_markEditS.calls kj23 (fun k_ => some k_ = (.slice Ao39 t815.length co39 : Value).ownBlock) (.slice Ao39 t815.length co39) t815 t842 t844 t845 w _ ?side1 ?side2 A70.out).mono ?_); (case side1 => repeat ((with_reducible exact HB.out))); (case side2 => exact Kd.R_tight rfl HO_12.out); rintro e w83 ⟨rfl, hy0, hb, hkp⟩; refine ⟨_, rfl, ?_⟩; have n0_ := Aside0.mk (Kd.R_mono (ok' := fun k_ => some k_ ≠ (.slice Ao38 t812.length co38 : Value).ownBlock ∧ some k_ ≠ (v824 : Value).ownBlock ∧ some k_ ≠ (.slice Ao74 t830.length co74 : Value).ownBlock) (Kd.R_keptB ((Kd.R_apart' HO_8.out (Kd.R_typed HO_12.out) (by decide))) hkp (fun k_ hk_ hs_ => (hk_.2) hs_)) (fun k_ hk_ => ⟨hk_.1.1.1, hk_.1.1.2.1, hk_.1.1.2.2⟩)); have n1_ := Aside0.mk (Kd.R_mono (ok' := fun k_ => some k_ ≠ (v826 : Value).ownBlock) (Kd.R_keptB ((Kd.R_apart' HO_9.out (Kd.R_typed HO_12.out) (by decide))) hkp (fun k_ hk_ hs_ => (hk_.2) hs_)) (fun k_ hk_ => hk_.1.1)); have n2_ := Aside0.mk (Kd.R_mono (ok' := fun k_ => some k_ ≠ (v808 : Value).ownBlock ∧ some k_ ≠ (v824 : Value).ownBlock ∧ some k_ ≠ (.slice Ao74 t830.length co74 : Value).ownBlock) (Kd.R_keptB ((Kd.R_apart' HO_11.out (Kd.R_typed HO_12.out) (by decide))) hkp (fun k_ hk_ hs_ => (hk_.2) hs_)) (fun k_ hk_ => ⟨hk_.1.1.1.1, hk_.1.1.1.2, hk_.1.1.2⟩)); have n3_ := Aside0.mk (Kd.R_reok rfl hy0 (fun k_ e_ => HO_12.out.1 k_ e_)); have n4_ := Aside0.mk (Kd.R_mono (ok' := fun k_ => some k_ ≠ (.slice Ao39 t815.length co39 : Value).ownBlock ∧ some k_ ≠ (.slice Ao77 t834.length co77 : Value).ownBlock ∧ some k_ ≠ (.slice Ao80 t838.length co80 : Value).ownBlock) (Kd.R_keptB (HO_13.out) hkp (fun k_ hk_ hs_ => (hk_.1) hs_)) (fun k_ hk_ => ⟨hk_.1.1, hk_.1.2.1, hk_.1.2.2⟩)); have n5_ := Aside0.mk (Kd.R_mono (ok' := fun k_ => some k_ ≠ (v808 : Value).ownBlock ∧ some k_ ≠ (.slice Ao38 t812.length co38 : Value).ownBlock ∧ some k_ ≠ (.slice Ao74 t830.length co74 : Value).ownBlock) (Kd.R_keptB ((Kd.R_apart' HO_14.out (Kd.R_typed HO_12.out) (by decide))) hkp (fun k_ hk_ hs_ => (hk_.2) hs_)) (fun k_ hk_ => ⟨hk_.1.1.1, hk_.1.1.2.1, hk_.1.1.2.2⟩)); have n6_ := Aside0.mk (Kd.R_mono (ok' := fun k_ => some k_ ≠ (v810 : Value).ownBlock) (Kd.R_keptB ((Kd.R_apart' HO_15.out (Kd.R_typed HO_12.out) (by decide))) hkp (fun k_ hk_ hs_ => (hk_.2) hs_)) (fun k_ hk_ => hk_.1.1)); have n7_ := Aside0.mk (Kd.R_mono (ok' := fun k_ => some k_ ≠ (v808 : Value).ownBlock ∧ some k_ ≠ (.slice Ao38 t812.length co38 : Value).ownBlock ∧ some k_ ≠ (v824 : Value).ownBlock) (Kd.R_keptB ((Kd.R_apart' HO832.out (Kd.R_typed HO_12.out) (by decide))) hkp (fun k_ hk_ hs_ => (hk_.2) hs_)) (fun k_ hk_ => ⟨hk_.1.1.1, hk_.1.1.2.1, hk_.1.1.2.2⟩)); have n8_ := Aside0.mk (Kd.R_mono (ok' := fun k_ => some k_ ≠ (.slice Ao39 t815.length co39 : Value).ownBlock ∧ some k_ ≠ (.slice Ao40 t818.length co40 : Value).ownBlock ∧ some k_ ≠ (.slice Ao80 t838.length co80 : Value).ownBlock) (Kd.R_keptB (HO836.out) hkp (fun k_ hk_ hs_ => (hk_.1) hs_)) (fun k_ hk_ => ⟨hk_.1.1, hk_.1.2.1, hk_.1.2.2⟩)); have n9_ := Aside0.mk (Kd.R_mono (ok' := fun k_ => some k_ ≠ (.slice Ao39 t815.length co39 : Value).ownBlock ∧ some k_ ≠ (.slice Ao40 t818.length co40 : Value).ownBlock ∧ some k_ ≠ (.slice Ao77 t834.length co77 : Value).ownBlock) (Kd.R_keptB (HO840.out) hkp (fun k_ hk_ hs_ => (hk_.1) hs_)) (fun k_ hk_ => ⟨hk_.1.1, hk_.1.2.1, hk_.1.2.2⟩)); have n10_ := Aside0.mk (hb); clear HO_8; clear HO_9; clear HO_11; clear HO_12; clear HO_13; clear HO_14; clear HO_15; clear HO832; clear HO836; clear HO840; clear HB; have HO_8 := n0_; have HO_9 := n1_; have HO_11 := n2_; have HO_12 := n3_; have HO_13 := n4_; have HO_14 := n5_; have HO_15 := n6_; have HO832 := n7_; have HO836 := n8_; have HO840 := n9_; have HB := n10_; clear n0_ n1_ n2_ n3_ n4_ n5_ n6_ n7_ n8_ n9_ n10_; (try clear hb); (try clear hkp); (try clear hy0)) | ((with_reducible refine gate_callee (f := 20) rfl ?_); refine goesL_ (some 101) rfl rfl Try.func20 (by kernel_rfl) rfl #[.slice Ao40 t818.length co40, .int .i64 t844] rfl gA ?_; (with_reducible refine (laws_markEditS.calls kj23 (fun k_ => some k_ = (.slice Ao40 t818.length co40 : Value).ownBlock) (.slice Ao40 t818.length co40) t818 t844 t846 t847 w _ ?side1 ?side2 A71.out).mono ?_); (case side1 => repeat ((with_reducible exact HB.out))); (case side2 => exact Kd.R_tight rfl HO_13.out); rintro e w84 ⟨rfl, hy0, hb, hkp⟩; refine ⟨_, rfl, ?_⟩; have n0_ := Aside0.mk (Kd.R_mono (ok' := fun k_ => some k_ ≠ (.slice Ao38 t812.length co38 : Value).ownBlock ∧ some k_ ≠ (v824 : Value).ownBlock ∧ some k_ ≠ (.slice Ao74 t830.length co74 : Value).ownBlock) (Kd.R_keptB ((Kd.R_apart' HO_8.out (Kd.R_typed HO_13.out) (by decide))) hkp (fun k_ hk_ hs_ => (hk_.2) hs_)) (fun k_ hk_ => ⟨hk_.1.1.1, hk_.1.1.2.1, hk_.1.1.2.2⟩)); have n1_ := Aside0.mk (Kd.R_mono (ok' := fun k_ => some k_ ≠ (v826 : Value).ownBlock) (Kd.R_keptB ((Kd.R_apart' HO_9.out (Kd.R_typed HO_13.out) (by decide))) hkp (fun k_ hk_ hs_ => (hk_.2) hs_)) (fun k_ hk_ => hk_.1.1)); have n2_ := Aside0.mk (Kd.R_mono (ok' := fun k_ => some k_ ≠ (v808 : Value).ownBlock ∧ some k_ ≠ (v824 : Value).ownBlock ∧ some k_ ≠ (.slice Ao74 t830.length co74 : Value).ownBlock) (Kd.R_keptB ((Kd.R_apart' HO_11.out (Kd.R_typed HO_13.out) (by decide))) hkp (fun k_ hk_ hs_ => (hk_.2) hs_)) (fun k_ hk_ => ⟨hk_.1.1.1, hk_.1.1.2.1, hk_.1.1.2.2⟩)); have n3_ := Aside0.mk (Kd.R_mono (ok' := fun k_ => some k_ ≠ (.slice Ao40 t818.length co40 : Value).ownBlock ∧ some k_ ≠ (.slice Ao77 t834.length co77 : Value).ownBlock ∧ some k_ ≠ (.slice Ao80 t838.length co80 : Value).ownBlock) (Kd.R_keptB (HO_12.out) hkp (fun k_ hk_ hs_ => (hk_.1) hs_)) (fun k_ hk_ => ⟨hk_.1.1, hk_.1.2.1, hk_.1.2.2⟩)); have n4_ := Aside0.mk (Kd.R_reok rfl hy0 (fun k_ e_ => HO_13.out.1 k_ e_)); have n5_ := Aside0.mk (Kd.R_mono (ok' := fun k_ => some k_ ≠ (v808 : Value).ownBlock ∧ some k_ ≠ (.slice Ao38 t812.length co38 : Value).ownBlock ∧ some k_ ≠ (.slice Ao74 t830.length co74 : Value).ownBlock) (Kd.R_keptB ((Kd.R_apart' HO_14.out (Kd.R_typed HO_13.out) (by decide))) hkp (fun k_ hk_ hs_ => (hk_.2) hs_)) (fun k_ hk_ => ⟨hk_.1.1.1, hk_.1.1.2.1, hk_.1.1.2.2⟩)); have n6_ := Aside0.mk (Kd.R_mono (ok' := fun k_ => some k_ ≠ (v810 : Value).ownBlock) (Kd.R_keptB ((Kd.R_apart' HO_15.out (Kd.R_typed HO_13.out) (by decide))) hkp (fun k_ hk_ hs_ => (hk_.2) hs_)) (fun k_ hk_ => hk_.1.1)); have n7_ := Aside0.mk (Kd.R_mono (ok' := fun k_ => some k_ ≠ (v808 : Value).ownBlock ∧ some k_ ≠ (.slice Ao38 t812.length co38 : Value).ownBlock ∧ some k_ ≠ (v824 : Value).ownBlock) (Kd.R_keptB ((Kd.R_apart' HO832.out (Kd.R_typed HO_13.out) (by decide))) hkp (fun k_ hk_ hs_ => (hk_.2) hs_)) (fun k_ hk_ => ⟨hk_.1.1.1, hk_.1.1.2.1, hk_.1.1.2.2⟩)); have n8_ := Aside0.mk (Kd.R_mono (ok' := fun k_ => some k_ ≠ (.slice Ao39 t815.length co39 : Value).ownBlock ∧ some k_ ≠ (.slice Ao40 t818.length co40 : Value).ownBlock ∧ some k_ ≠ (.slice Ao80 t838.length co80 : Value).ownBlock) (Kd.R_keptB (HO836.out) hkp (fun k_ hk_ hs_ => (hk_.2.1) hs_)) (fun k_ hk_ => ⟨hk_.1.1, hk_.1.2.1, hk_.1.2.2⟩)); have n9_ := Aside0.mk (Kd.R_mono (ok' := fun k_ => some k_ ≠ (.slice Ao39 t815.length co39 : Value).ownBlock ∧ some k_ ≠ (.slice Ao40 t818.length co40 : Value).ownBlock ∧ some k_ ≠ (.slice Ao77 t834.length co77 : Value).ownBlock) (Kd.R_keptB (HO840.out) hkp (fun k_ hk_ hs_ => (hk_.2.1) hs_)) (fun k_ hk_ => ⟨hk_.1.1, hk_.1.2.1, hk_.1.2.2⟩)); have n10_ := Aside0.mk (hb); clear HO_8; clear HO_9; clear HO_11; clear HO_12; clear HO_13; clear HO_14; clear HO_15; clear HO832; clear HO836; clear HO840; clear HB; have HO_8 := n0_; have HO_9 := n1_; have HO_11 := n2_; have HO_12 := n3_; have HO_13 := n4_; have HO_14 := n5_; have HO_15 := n6_; have HO832 := n7_; have HO836 := n8_; have HO840 := n9_; have HB := n10_; clear n0_ n1_ n2_ n3_ n4_ n5_ n6_ n7_ n8_ n9_ n10_; (try clear hb); (try clear hkp); (try clear hy0)))
                    go_cut [120] (fun v120 wc => ∃ (kq : Nat) (x120_71 : Bool), v120 = .bool x120_71 ∧ Aside0 (laws_FnExactMergeEdits.j1 kq l0 l1 l2 t805 t806 t807 t821 t822 x120_71 = some true) ∧ Aside0 (kq ≤ kj23) ∧ Aside0 (Kd.R k55 55 wc w.heap.size (fun k_ => some k_ ≠ (v824 : Value).ownBlock) v808 t805) ∧ Aside0 (Kd.R Kd.string 9 wc w.heap.size (fun k_ => some k_ ≠ (v826 : Value).ownBlock) v810 t806) ∧ Aside0 (Kd.R k55 55 wc w.heap.size (fun k_ => some k_ ≠ (v808 : Value).ownBlock) v824 t821) ∧ Aside0 (Kd.R Kd.string 9 wc w.heap.size (fun k_ => some k_ ≠ (v810 : Value).ownBlock) v826 t822) ∧ Aside0 (Below w.heap.size w wc))
                    case first =>
                      have H := HC72.out
                      clear HC72
                      by_cases c85 : t846 < 0
                      · rw [if_pos c85] at H
                        have c85b0 : decide (t846 < 0) = true := decide_eq_true c85
                        clear c85
                        have H' := Aside0.mk H
                        clear H
                        go_wp2
                        go_meet
                        case rel => exact ⟨_, (true), vE, H', ⟨by have := HJ23.out; omega⟩, ⟨by exact Kd.R_mono HO_8.out (fun _ hk => hk.2.1)⟩, ⟨by exact HO_9.out⟩, ⟨by exact Kd.R_mono HO_14.out (fun _ hk => hk.1)⟩, ⟨by exact HO_15.out⟩, ⟨bW⟩⟩
                      · rw [if_neg c85] at H
                        have c85b0 : decide (t846 < 0) = false := decide_eq_false c85
                        clear c85
                        replace H := Option.bind_eq_some_iff.mp H
                        obtain ⟨t848, A860, H⟩ := H
                        replace H : (if t848 = true then ((laws_eqStringS.f kj23 t822 t806).bind fun t849 => (if t849 = true then (laws_FnExactMergeEdits.j1 kj23 l0 l1 l2 t805 t806 t807 t821 t822 (t823 != t807)) else (laws_FnExactMergeEdits.j1 kj23 l0 l1 l2 t805 t806 t807 t821 t822 true))) else (laws_FnExactMergeEdits.j1 kj23 l0 l1 l2 t805 t806 t807 t821 t822 true)) = some true := H
                        have A86 := Aside0.mk A860
                        clear A860
                        by_cases c87 : t848 = true
                        · subst c87
                          have H1 : ((laws_eqStringS.f kj23 t822 t806).bind fun t849 => (if t849 = true then (laws_FnExactMergeEdits.j1 kj23 l0 l1 l2 t805 t806 t807 t821 t822 (t823 != t807)) else (laws_FnExactMergeEdits.j1 kj23 l0 l1 l2 t805 t806 t807 t821 t822 true))) = some true := by rw [if_pos rfl] at H; exact H
                          clear H
                          have H := H1
                          clear H1
                          replace H := Option.bind_eq_some_iff.mp H
                          obtain ⟨t849, A880, H⟩ := H
                          replace H : (if t849 = true then (laws_FnExactMergeEdits.j1 kj23 l0 l1 l2 t805 t806 t807 t821 t822 (t823 != t807)) else (laws_FnExactMergeEdits.j1 kj23 l0 l1 l2 t805 t806 t807 t821 t822 true)) = some true := H
                          have A88 := Aside0.mk A880
                          clear A880
                          by_cases c89 : t849 = true
                          · subst c89
                            have H1 : (laws_FnExactMergeEdits.j1 kj23 l0 l1 l2 t805 t806 t807 t821 t822 (t823 != t807)) = some true := by rw [if_pos rfl] at H; exact H
                            clear H
                            have H := H1
                            clear H1
                            have H' := Aside0.mk H
                            clear H
                            obtain ⟨Ao90, co90, eo90⟩ := Kd.R_slice HO_14.out
                            subst eo90
                            obtain ⟨Ao91, co91, eo91⟩ := Kd.R_slice HO_8.out
                            subst eo91
                            go_wp2_with (first | (go_at_call 13; (with_reducible refine (laws_eqEntryS.calls kj23 _ _ t821 _ _ t805 true _ ?side1 ?side2 ?side3 ?side4 A86.out).mono ?_); (case side1 => repeat (exact (Kd.R_reads' HO_14.out).2.2)); (case side2 => exact (Kd.R_reads' HO_14.out).2.1); (case side3 => repeat (exact (Kd.R_reads' HO_8.out).2.2)); (case side4 => exact (Kd.R_reads' HO_8.out).2.1); rintro e w92 ⟨rfl, hb⟩; have n0_ := Aside0.mk (Kd.R_below (pR HO_8) hb); have n1_ := Aside0.mk (Kd.R_below (pR HO_9) hb); have n2_ := Aside0.mk (Kd.R_below (pR HO_11) hb); have n3_ := Aside0.mk (Kd.R_below (pR HO_12) hb); have n4_ := Aside0.mk (Kd.R_below (pR HO_13) hb); have n5_ := Aside0.mk (Kd.R_below (pR HO_14) hb); have n6_ := Aside0.mk (Kd.R_below (pR HO_15) hb); have n7_ := Aside0.mk (Kd.R_below (pR HO832) hb); have n8_ := Aside0.mk (Kd.R_below (pR HO836) hb); have n9_ := Aside0.mk (Kd.R_below (pR HO840) hb); have n10_ := Aside0.mk (below_step (w := w) bW hb); clear HO_8; clear HO_9; clear HO_11; clear HO_12; clear HO_13; clear HO_14; clear HO_15; clear HO832; clear HO836; clear HO840; clear HB; have HO_8 := n0_; have HO_9 := n1_; have HO_11 := n2_; have HO_12 := n3_; have HO_13 := n4_; have HO_14 := n5_; have HO_15 := n6_; have HO832 := n7_; have HO836 := n8_; have HO840 := n9_; have HB := n10_; clear n0_ n1_ n2_ n3_ n4_ n5_ n6_ n7_ n8_ n9_ n10_; (try clear hb); obtain ⟨Ao93, co93, eo93⟩ := Kd.R_slice HO_15.out; subst eo93; obtain ⟨Ao94, co94, eo94⟩ := Kd.R_slice HO_9.out; subst eo94) | (go_at_call 12; (with_reducible refine (laws_eqStringS.calls kj23 _ _ t822 _ _ t806 true _ ?side1 ?side2 ?side3 ?side4 A88.out).mono ?_); (case side1 => repeat (exact (Kd.R_reads' HO_15.out).2.2)); (case side2 => exact (Kd.R_reads' HO_15.out).2.1); (case side3 => repeat (exact (Kd.R_reads' HO_9.out).2.2)); (case side4 => exact (Kd.R_reads' HO_9.out).2.1); rintro e w' ⟨rfl, ⟨nd, rfl⟩⟩))
                            go_meet
                            case rel => exact ⟨_, ((t823 != t807)), vE, H', ⟨by have := HJ23.out; omega⟩, ⟨by (with_reducible repeat (apply Kd.R_drewN)); exact Kd.R_mono HO_8.out (fun _ hk => hk.2.1)⟩, ⟨by (with_reducible repeat (apply Kd.R_drewN)); exact HO_9.out⟩, ⟨by (with_reducible repeat (apply Kd.R_drewN)); exact Kd.R_mono HO_14.out (fun _ hk => hk.1)⟩, ⟨by (with_reducible repeat (apply Kd.R_drewN)); exact HO_15.out⟩, ⟨bW⟩⟩
                          · replace c89 := Bool.eq_false_iff.mpr c89
                            subst c89
                            have H1 : (laws_FnExactMergeEdits.j1 kj23 l0 l1 l2 t805 t806 t807 t821 t822 true) = some true := by rw [if_neg (show ¬ (false = true) by decide)] at H; exact H
                            clear H
                            have H := H1
                            clear H1
                            have H' := Aside0.mk H
                            clear H
                            obtain ⟨Ao95, co95, eo95⟩ := Kd.R_slice HO_14.out
                            subst eo95
                            obtain ⟨Ao96, co96, eo96⟩ := Kd.R_slice HO_8.out
                            subst eo96
                            go_wp2_with (first | (go_at_call 13; (with_reducible refine (laws_eqEntryS.calls kj23 _ _ t821 _ _ t805 true _ ?side1 ?side2 ?side3 ?side4 A86.out).mono ?_); (case side1 => repeat (exact (Kd.R_reads' HO_14.out).2.2)); (case side2 => exact (Kd.R_reads' HO_14.out).2.1); (case side3 => repeat (exact (Kd.R_reads' HO_8.out).2.2)); (case side4 => exact (Kd.R_reads' HO_8.out).2.1); rintro e w97 ⟨rfl, hb⟩; have n0_ := Aside0.mk (Kd.R_below (pR HO_8) hb); have n1_ := Aside0.mk (Kd.R_below (pR HO_9) hb); have n2_ := Aside0.mk (Kd.R_below (pR HO_11) hb); have n3_ := Aside0.mk (Kd.R_below (pR HO_12) hb); have n4_ := Aside0.mk (Kd.R_below (pR HO_13) hb); have n5_ := Aside0.mk (Kd.R_below (pR HO_14) hb); have n6_ := Aside0.mk (Kd.R_below (pR HO_15) hb); have n7_ := Aside0.mk (Kd.R_below (pR HO832) hb); have n8_ := Aside0.mk (Kd.R_below (pR HO836) hb); have n9_ := Aside0.mk (Kd.R_below (pR HO840) hb); have n10_ := Aside0.mk (below_step (w := w) bW hb); clear HO_8; clear HO_9; clear HO_11; clear HO_12; clear HO_13; clear HO_14; clear HO_15; clear HO832; clear HO836; clear HO840; clear HB; have HO_8 := n0_; have HO_9 := n1_; have HO_11 := n2_; have HO_12 := n3_; have HO_13 := n4_; have HO_14 := n5_; have HO_15 := n6_; have HO832 := n7_; have HO836 := n8_; have HO840 := n9_; have HB := n10_; clear n0_ n1_ n2_ n3_ n4_ n5_ n6_ n7_ n8_ n9_ n10_; (try clear hb); obtain ⟨Ao98, co98, eo98⟩ := Kd.R_slice HO_15.out; subst eo98; obtain ⟨Ao99, co99, eo99⟩ := Kd.R_slice HO_9.out; subst eo99) | (go_at_call 12; (with_reducible refine (laws_eqStringS.calls kj23 _ _ t822 _ _ t806 false _ ?side1 ?side2 ?side3 ?side4 A88.out).mono ?_); (case side1 => repeat (exact (Kd.R_reads' HO_15.out).2.2)); (case side2 => exact (Kd.R_reads' HO_15.out).2.1); (case side3 => repeat (exact (Kd.R_reads' HO_9.out).2.2)); (case side4 => exact (Kd.R_reads' HO_9.out).2.1); rintro e w' ⟨rfl, ⟨nd, rfl⟩⟩))
                            go_meet
                            case rel => exact ⟨_, (true), vE, H', ⟨by have := HJ23.out; omega⟩, ⟨by (with_reducible repeat (apply Kd.R_drewN)); exact Kd.R_mono HO_8.out (fun _ hk => hk.2.1)⟩, ⟨by (with_reducible repeat (apply Kd.R_drewN)); exact HO_9.out⟩, ⟨by (with_reducible repeat (apply Kd.R_drewN)); exact Kd.R_mono HO_14.out (fun _ hk => hk.1)⟩, ⟨by (with_reducible repeat (apply Kd.R_drewN)); exact HO_15.out⟩, ⟨bW⟩⟩
                        · replace c87 := Bool.eq_false_iff.mpr c87
                          subst c87
                          have H1 : (laws_FnExactMergeEdits.j1 kj23 l0 l1 l2 t805 t806 t807 t821 t822 true) = some true := by rw [if_neg (show ¬ (false = true) by decide)] at H; exact H
                          clear H
                          have H := H1
                          clear H1
                          have H' := Aside0.mk H
                          clear H
                          obtain ⟨Ao100, co100, eo100⟩ := Kd.R_slice HO_14.out
                          subst eo100
                          obtain ⟨Ao101, co101, eo101⟩ := Kd.R_slice HO_8.out
                          subst eo101
                          go_wp2_with ((go_at_call 13; (with_reducible refine (laws_eqEntryS.calls kj23 _ _ t821 _ _ t805 false _ ?side1 ?side2 ?side3 ?side4 A86.out).mono ?_); (case side1 => repeat (exact (Kd.R_reads' HO_14.out).2.2)); (case side2 => exact (Kd.R_reads' HO_14.out).2.1); (case side3 => repeat (exact (Kd.R_reads' HO_8.out).2.2)); (case side4 => exact (Kd.R_reads' HO_8.out).2.1); rintro e w102 ⟨rfl, hb⟩; have n0_ := Aside0.mk (Kd.R_below (pR HO_8) hb); have n1_ := Aside0.mk (Kd.R_below (pR HO_9) hb); have n2_ := Aside0.mk (Kd.R_below (pR HO_11) hb); have n3_ := Aside0.mk (Kd.R_below (pR HO_12) hb); have n4_ := Aside0.mk (Kd.R_below (pR HO_13) hb); have n5_ := Aside0.mk (Kd.R_below (pR HO_14) hb); have n6_ := Aside0.mk (Kd.R_below (pR HO_15) hb); have n7_ := Aside0.mk (Kd.R_below (pR HO832) hb); have n8_ := Aside0.mk (Kd.R_below (pR HO836) hb); have n9_ := Aside0.mk (Kd.R_below (pR HO840) hb); have n10_ := Aside0.mk (below_step (w := w) bW hb); clear HO_8; clear HO_9; clear HO_11; clear HO_12; clear HO_13; clear HO_14; clear HO_15; clear HO832; clear HO836; clear HO840; clear HB; have HO_8 := n0_; have HO_9 := n1_; have HO_11 := n2_; have HO_12 := n3_; have HO_13 := n4_; have HO_14 := n5_; have HO_15 := n6_; have HO832 := n7_; have HO836 := n8_; have HO840 := n9_; have HB := n10_; clear n0_ n1_ n2_ n3_ n4_ n5_ n6_ n7_ n8_ n9_ n10_; (try clear hb)))
                          go_meet
                          case rel => exact ⟨_, (true), vE, H', ⟨by have := HJ23.out; omega⟩, ⟨by exact Kd.R_mono HO_8.out (fun _ hk => hk.2.1)⟩, ⟨by exact HO_9.out⟩, ⟨by exact Kd.R_mono HO_14.out (fun _ hk => hk.1)⟩, ⟨by exact HO_15.out⟩, ⟨bW⟩⟩
                    case rest =>
                      clear HC72
                      obtain ⟨kq, x120_71, rfl, HA, HJ71, HO_8, HO_9, HO_14, HO_15, HB⟩ := hcut
                      cases kq with
                      | zero => exact absurd HA.out (by simp [laws_FnExactMergeEdits.j1])
                      | succ kj71 =>
                        have H := HA.out
                        clear HA
                        simp only [laws_FnExactMergeEdits.j1] at H
                        by_cases c103 : x120_71 = true
                        · subst c103
                          have H1 : (some false) = some true := by rw [if_pos rfl] at H; exact H
                          exact absurd H1 (by simp)
                        · replace c103 := Bool.eq_false_iff.mpr c103
                          subst c103
                          have H1 : ((laws_markEntryS.f kj71 t821 1).bind fun bt850 => ((laws_markStringS.f kj71 t822 bt850.1).bind fun bt852 => ((laws_heldEntryS.f kj71 bt850.2 1).bind fun t854 => (if t854 < 0 then (some false) else ((laws_heldStringS.f kj71 bt852.2 t854).bind fun t855 => (if t855 < 0 then (some false) else (if t855 = bt852.1 then ((laws_toEntryS.f kj71 l0).bind fun t856 => ((laws_toEditS.f kj71 l1).bind fun t859 => ((laws_toEditS.f kj71 l2).bind fun t862 => ((impl_MergeEdits.f kj71 t856 t859 t862).bind fun bt865 => ((laws_eqEntryS.f kj71 bt865.1 t805).bind fun t872 => (if t872 = true then ((laws_eqStringS.f kj71 bt865.2.1 t806).bind fun t873 => (if t873 = true then (laws_FnExactMergeEdits.j2 kj71 bt850.2 bt852.2 bt852.1 (bt865.2.2 != t807)) else (laws_FnExactMergeEdits.j2 kj71 bt850.2 bt852.2 bt852.1 true))) else (laws_FnExactMergeEdits.j2 kj71 bt850.2 bt852.2 bt852.1 true))))))) else (some false)))))))) = some true := by rw [if_neg (show ¬ (false = true) by decide)] at H; exact H
                          clear H
                          have H := H1
                          clear H1
                          replace H := Option.bind_eq_some_iff.mp H
                          obtain ⟨⟨t850, t851⟩, A1040, H⟩ := H
                          replace H : ((laws_markStringS.f kj71 t822 t850).bind fun bt852 => ((laws_heldEntryS.f kj71 t851 1).bind fun t854 => (if t854 < 0 then (some false) else ((laws_heldStringS.f kj71 bt852.2 t854).bind fun t855 => (if t855 < 0 then (some false) else (if t855 = bt852.1 then ((laws_toEntryS.f kj71 l0).bind fun t856 => ((laws_toEditS.f kj71 l1).bind fun t859 => ((laws_toEditS.f kj71 l2).bind fun t862 => ((impl_MergeEdits.f kj71 t856 t859 t862).bind fun bt865 => ((laws_eqEntryS.f kj71 bt865.1 t805).bind fun t872 => (if t872 = true then ((laws_eqStringS.f kj71 bt865.2.1 t806).bind fun t873 => (if t873 = true then (laws_FnExactMergeEdits.j2 kj71 t851 bt852.2 bt852.1 (bt865.2.2 != t807)) else (laws_FnExactMergeEdits.j2 kj71 t851 bt852.2 bt852.1 true))) else (laws_FnExactMergeEdits.j2 kj71 t851 bt852.2 bt852.1 true))))))) else (some false))))))) = some true := H
                          have A104 := Aside0.mk A1040
                          clear A1040
                          replace H := Option.bind_eq_some_iff.mp H
                          obtain ⟨⟨t852, t853⟩, A1050, H⟩ := H
                          replace H : ((laws_heldEntryS.f kj71 t851 1).bind fun t854 => (if t854 < 0 then (some false) else ((laws_heldStringS.f kj71 t853 t854).bind fun t855 => (if t855 < 0 then (some false) else (if t855 = t852 then ((laws_toEntryS.f kj71 l0).bind fun t856 => ((laws_toEditS.f kj71 l1).bind fun t859 => ((laws_toEditS.f kj71 l2).bind fun t862 => ((impl_MergeEdits.f kj71 t856 t859 t862).bind fun bt865 => ((laws_eqEntryS.f kj71 bt865.1 t805).bind fun t872 => (if t872 = true then ((laws_eqStringS.f kj71 bt865.2.1 t806).bind fun t873 => (if t873 = true then (laws_FnExactMergeEdits.j2 kj71 t851 t853 t852 (bt865.2.2 != t807)) else (laws_FnExactMergeEdits.j2 kj71 t851 t853 t852 true))) else (laws_FnExactMergeEdits.j2 kj71 t851 t853 t852 true))))))) else (some false)))))) = some true := H
                          have A105 := Aside0.mk A1050
                          clear A1050
                          replace H := Option.bind_eq_some_iff.mp H
                          obtain ⟨t854, A1060, H⟩ := H
                          replace H : (if t854 < 0 then (some false) else ((laws_heldStringS.f kj71 t853 t854).bind fun t855 => (if t855 < 0 then (some false) else (if t855 = t852 then ((laws_toEntryS.f kj71 l0).bind fun t856 => ((laws_toEditS.f kj71 l1).bind fun t859 => ((laws_toEditS.f kj71 l2).bind fun t862 => ((impl_MergeEdits.f kj71 t856 t859 t862).bind fun bt865 => ((laws_eqEntryS.f kj71 bt865.1 t805).bind fun t872 => (if t872 = true then ((laws_eqStringS.f kj71 bt865.2.1 t806).bind fun t873 => (if t873 = true then (laws_FnExactMergeEdits.j2 kj71 t851 t853 t852 (bt865.2.2 != t807)) else (laws_FnExactMergeEdits.j2 kj71 t851 t853 t852 true))) else (laws_FnExactMergeEdits.j2 kj71 t851 t853 t852 true))))))) else (some false))))) = some true := H
                          have A106 := Aside0.mk A1060
                          clear A1060
                          by_cases c107 : t854 < 0
                          · rw [if_pos c107] at H
                            exact absurd H (by simp)
                          · rw [if_neg c107] at H
                            have c107b0 : decide (t854 < 0) = false := decide_eq_false c107
                            clear c107
                            replace H := Option.bind_eq_some_iff.mp H
                            obtain ⟨t855, A1130, H⟩ := H
                            replace H : (if t855 < 0 then (some false) else (if t855 = t852 then ((laws_toEntryS.f kj71 l0).bind fun t856 => ((laws_toEditS.f kj71 l1).bind fun t859 => ((laws_toEditS.f kj71 l2).bind fun t862 => ((impl_MergeEdits.f kj71 t856 t859 t862).bind fun bt865 => ((laws_eqEntryS.f kj71 bt865.1 t805).bind fun t872 => (if t872 = true then ((laws_eqStringS.f kj71 bt865.2.1 t806).bind fun t873 => (if t873 = true then (laws_FnExactMergeEdits.j2 kj71 t851 t853 t852 (bt865.2.2 != t807)) else (laws_FnExactMergeEdits.j2 kj71 t851 t853 t852 true))) else (laws_FnExactMergeEdits.j2 kj71 t851 t853 t852 true))))))) else (some false))) = some true := H
                            have A113 := Aside0.mk A1130
                            clear A1130
                            by_cases c114 : t855 < 0
                            · rw [if_pos c114] at H
                              exact absurd H (by simp)
                            · rw [if_neg c114] at H
                              have c114b0 : decide (t855 < 0) = false := decide_eq_false c114
                              clear c114
                              by_cases c121 : t855 = t852
                              · rw [if_pos c121] at H
                                have c121b0 : (t855 == t852) = true := beq_iff_eq.mpr c121
                                have c121b1 : (t855 != t852) = false := bne_eq_false_iff_eq.mpr c121
                                clear c121
                                replace H := Option.bind_eq_some_iff.mp H
                                obtain ⟨t856, A1220, H⟩ := H
                                replace H : ((laws_toEditS.f kj71 l1).bind fun t859 => ((laws_toEditS.f kj71 l2).bind fun t862 => ((impl_MergeEdits.f kj71 t856 t859 t862).bind fun bt865 => ((laws_eqEntryS.f kj71 bt865.1 t805).bind fun t872 => (if t872 = true then ((laws_eqStringS.f kj71 bt865.2.1 t806).bind fun t873 => (if t873 = true then (laws_FnExactMergeEdits.j2 kj71 t851 t853 t852 (bt865.2.2 != t807)) else (laws_FnExactMergeEdits.j2 kj71 t851 t853 t852 true))) else (laws_FnExactMergeEdits.j2 kj71 t851 t853 t852 true)))))) = some true := H
                                have A122 := Aside0.mk A1220
                                clear A1220
                                replace H := Option.bind_eq_some_iff.mp H
                                obtain ⟨t859, A1230, H⟩ := H
                                replace H : ((laws_toEditS.f kj71 l2).bind fun t862 => ((impl_MergeEdits.f kj71 t856 t859 t862).bind fun bt865 => ((laws_eqEntryS.f kj71 bt865.1 t805).bind fun t872 => (if t872 = true then ((laws_eqStringS.f kj71 bt865.2.1 t806).bind fun t873 => (if t873 = true then (laws_FnExactMergeEdits.j2 kj71 t851 t853 t852 (bt865.2.2 != t807)) else (laws_FnExactMergeEdits.j2 kj71 t851 t853 t852 true))) else (laws_FnExactMergeEdits.j2 kj71 t851 t853 t852 true))))) = some true := H
                                have A123 := Aside0.mk A1230
                                clear A1230
                                replace H := Option.bind_eq_some_iff.mp H
                                obtain ⟨t862, A1240, H⟩ := H
                                replace H : ((impl_MergeEdits.f kj71 t856 t859 t862).bind fun bt865 => ((laws_eqEntryS.f kj71 bt865.1 t805).bind fun t872 => (if t872 = true then ((laws_eqStringS.f kj71 bt865.2.1 t806).bind fun t873 => (if t873 = true then (laws_FnExactMergeEdits.j2 kj71 t851 t853 t852 (bt865.2.2 != t807)) else (laws_FnExactMergeEdits.j2 kj71 t851 t853 t852 true))) else (laws_FnExactMergeEdits.j2 kj71 t851 t853 t852 true)))) = some true := H
                                have A124 := Aside0.mk A1240
                                clear A1240
                                replace H := Option.bind_eq_some_iff.mp H
                                obtain ⟨⟨t865, t866, t867⟩, A1250, H⟩ := H
                                replace H : ((laws_eqEntryS.f kj71 t865 t805).bind fun t872 => (if t872 = true then ((laws_eqStringS.f kj71 t866 t806).bind fun t873 => (if t873 = true then (laws_FnExactMergeEdits.j2 kj71 t851 t853 t852 (t867 != t807)) else (laws_FnExactMergeEdits.j2 kj71 t851 t853 t852 true))) else (laws_FnExactMergeEdits.j2 kj71 t851 t853 t852 true))) = some true := H
                                have A125 := Aside0.mk A1250
                                clear A1250
                                have HC126 := Aside0.mk H
                                clear H
                                obtain ⟨Ao127, co127, eo127⟩ := Kd.R_slice HO_14.out
                                subst eo127
                                go_upto_region 43 with (first | ((with_reducible refine gate_callee (f := 14) rfl ?_); refine goesL_ (some 123) rfl rfl Try.func14 (by kernel_rfl) rfl #[.slice Ao127 t821.length co127, .int .i64 1] rfl gA ?_; (with_reducible refine (laws_markEntryS.calls kj71 (fun k_ => some k_ = (.slice Ao127 t821.length co127 : Value).ownBlock) (.slice Ao127 t821.length co127) t821 1 t850 t851 w _ ?side1 ?side2 A104.out).mono ?_); (case side1 => repeat ((with_reducible exact HB.out))); (case side2 => exact Kd.R_tight rfl HO_14.out); rintro e w128 ⟨rfl, hy0, hb, hkp⟩; refine ⟨_, rfl, ?_⟩; have n0_ := Aside0.mk (Kd.R_mono (ok' := fun k_ => some k_ ≠ (.slice Ao127 t821.length co127 : Value).ownBlock) (Kd.R_keptB (HO_8.out) hkp (fun k_ hk_ hs_ => (hk_) hs_)) (fun k_ hk_ => hk_.1)); have n1_ := Aside0.mk (Kd.R_mono (ok' := fun k_ => some k_ ≠ (v826 : Value).ownBlock) (Kd.R_keptB ((Kd.R_apart' HO_9.out (Kd.R_typed HO_14.out) (by decide))) hkp (fun k_ hk_ hs_ => (hk_.2) hs_)) (fun k_ hk_ => hk_.1.1)); have n2_ := Aside0.mk (Kd.R_reok rfl hy0 (fun k_ e_ => HO_14.out.1 k_ e_)); have n3_ := Aside0.mk (Kd.R_mono (ok' := fun k_ => some k_ ≠ (v810 : Value).ownBlock) (Kd.R_keptB ((Kd.R_apart' HO_15.out (Kd.R_typed HO_14.out) (by decide))) hkp (fun k_ hk_ hs_ => (hk_.2) hs_)) (fun k_ hk_ => hk_.1.1)); have n4_ := Aside0.mk (hb); clear HO_8; clear HO_9; clear HO_14; clear HO_15; clear HB; have HO_8 := n0_; have HO_9 := n1_; have HO_14 := n2_; have HO_15 := n3_; have HB := n4_; clear n0_ n1_ n2_ n3_ n4_; (try clear hb); (try clear hkp); (try clear hy0); obtain ⟨Ao129, co129, eo129⟩ := Kd.R_slice HO_15.out; subst eo129) | ((with_reducible refine gate_callee (f := 15) rfl ?_); refine goesL_ (some 126) rfl rfl Try.func15 (by kernel_rfl) rfl #[.slice Ao129 t822.length co129, .int .i64 t850] rfl gA ?_; (with_reducible refine (laws_markStringS.calls kj71 (fun k_ => some k_ = (.slice Ao129 t822.length co129 : Value).ownBlock) (.slice Ao129 t822.length co129) t822 t850 t852 t853 w _ ?side1 ?side2 A105.out).mono ?_); (case side1 => repeat ((with_reducible exact HB.out))); (case side2 => exact Kd.R_tight rfl HO_15.out); rintro e w130 ⟨rfl, hy0, hb, hkp⟩; refine ⟨_, rfl, ?_⟩; have n0_ := Aside0.mk (Kd.R_mono (ok' := fun k_ => some k_ ≠ (.slice Ao127 t821.length co127 : Value).ownBlock) (Kd.R_keptB ((Kd.R_apart' HO_8.out (Kd.R_typed HO_15.out) (by decide))) hkp (fun k_ hk_ hs_ => (hk_.2) hs_)) (fun k_ hk_ => hk_.1.1)); have n1_ := Aside0.mk (Kd.R_mono (ok' := fun k_ => some k_ ≠ (.slice Ao129 t822.length co129 : Value).ownBlock) (Kd.R_keptB (HO_9.out) hkp (fun k_ hk_ hs_ => (hk_) hs_)) (fun k_ hk_ => hk_.1)); have n2_ := Aside0.mk (Kd.R_mono (ok' := fun k_ => some k_ ≠ (v808 : Value).ownBlock) (Kd.R_keptB ((Kd.R_apart' HO_14.out (Kd.R_typed HO_15.out) (by decide))) hkp (fun k_ hk_ hs_ => (hk_.2) hs_)) (fun k_ hk_ => hk_.1.1)); have n3_ := Aside0.mk (Kd.R_reok rfl hy0 (fun k_ e_ => HO_15.out.1 k_ e_)); have n4_ := Aside0.mk (hb); clear HO_8; clear HO_9; clear HO_14; clear HO_15; clear HB; have HO_8 := n0_; have HO_9 := n1_; have HO_14 := n2_; have HO_15 := n3_; have HB := n4_; clear n0_ n1_ n2_ n3_ n4_; (try clear hb); (try clear hkp); (try clear hy0)) | ((with_reducible refine gate_callee (f := 24) rfl ?_); refine goesL_ (some 129) rfl rfl Try.func24 (by kernel_rfl) rfl #[.slice Ao127 t851.length co127, .int .i64 1] rfl (by (try simp only [List.map_toArray, List.map_cons, List.map_nil]); (rw [show t851.length = t821.length from (Kd.R_reads' HO_14.out).1.symm] <;> rfl)) ?_; (with_reducible refine (laws_heldEntryS.calls kj71 _ _ t851 1 t854 _ ?side1 ?side2 A106.out).mono ?_); (case side1 => repeat (exact (Kd.R_reads' HO_14.out).2.2)); (case side2 => rw [show t851.length = t821.length from (Kd.R_reads' HO_14.out).1.symm]; exact (Kd.R_reads' HO_14.out).2.1); rintro e w131 ⟨rfl, hb⟩; refine ⟨_, rfl, ?_⟩; have n0_ := Aside0.mk (Kd.R_below (pR HO_8) hb); have n1_ := Aside0.mk (Kd.R_below (pR HO_9) hb); have n2_ := Aside0.mk (Kd.R_below (pR HO_14) hb); have n3_ := Aside0.mk (Kd.R_below (pR HO_15) hb); have n4_ := Aside0.mk (below_step (w := w) bW hb); clear HO_8; clear HO_9; clear HO_14; clear HO_15; clear HB; have HO_8 := n0_; have HO_9 := n1_; have HO_14 := n2_; have HO_15 := n3_; have HB := n4_; clear n0_ n1_ n2_ n3_ n4_; (try clear hb)) | ((with_reducible refine gate_callee (f := 16) rfl ?_); refine goesL_ (some 134) rfl rfl Try.func16 (by kernel_rfl) rfl #[.slice Ao129 t853.length co129, .int .i64 t854] rfl (by (try simp only [List.map_toArray, List.map_cons, List.map_nil]); (rw [show t853.length = t822.length from (Kd.R_reads' HO_15.out).1.symm] <;> rfl)) ?_; (with_reducible refine (laws_heldStringS.calls kj71 _ _ t853 t854 t855 _ ?side1 ?side2 A113.out).mono ?_); (case side1 => repeat (exact (Kd.R_reads' HO_15.out).2.2)); (case side2 => rw [show t853.length = t822.length from (Kd.R_reads' HO_15.out).1.symm]; exact (Kd.R_reads' HO_15.out).2.1); rintro e w132 ⟨rfl, hb⟩; refine ⟨_, rfl, ?_⟩; have n0_ := Aside0.mk (Kd.R_below (pR HO_8) hb); have n1_ := Aside0.mk (Kd.R_below (pR HO_9) hb); have n2_ := Aside0.mk (Kd.R_below (pR HO_14) hb); have n3_ := Aside0.mk (Kd.R_below (pR HO_15) hb); have n4_ := Aside0.mk (below_step (w := w) bW hb); clear HO_8; clear HO_9; clear HO_14; clear HO_15; clear HB; have HO_8 := n0_; have HO_9 := n1_; have HO_14 := n2_; have HO_15 := n3_; have HB := n4_; clear n0_ n1_ n2_ n3_ n4_; (try clear hb)) | ((with_reducible refine gate_callee (f := 10) rfl ?_); refine goesL_ (some 142) rfl rfl Try.func10 (by kernel_rfl) rfl #[.slice A0 l0.length c0] rfl gA ?_; (with_reducible refine (laws_toEntryS.calls kj71 _ _ l0 t856 _ ?side1 ?side2 A122.out).mono ?_); (case side1 => exact cB HR0); (case side2 => exact HC0.out); rintro e w133 ⟨v857, rfl, ho0, hb⟩; refine ⟨_, rfl, ?_⟩; have n0_ := Aside0.mk (Kd.R_elder' (pR HO_8) (Kd.R_base ho0) hb); have n1_ := Aside0.mk (Kd.R_below (pR HO_9) hb); have n2_ := Aside0.mk (Kd.R_elder' (pR HO_14) (Kd.R_base ho0) hb); have n3_ := Aside0.mk (Kd.R_below (pR HO_15) hb); have n4_ := Aside0.mk (Kd.R_lower (Kd.R_new' (Kd.R_new' ho0 (Kd.R_lt (pR HO_8))) (Kd.R_lt (pR HO_14))) (below_size (w := w) bW)); have n5_ := Aside0.mk (below_step (w := w) bW hb); clear HO_8; clear HO_9; clear HO_14; clear HO_15; clear HB; have HO_8 := n0_; have HO_9 := n1_; have HO_14 := n2_; have HO_15 := n3_; have HO858 := n4_; have HB := n5_; clear n0_ n1_ n2_ n3_ n4_ n5_; (try clear hb); (try clear ho0)) | ((with_reducible refine gate_callee (f := 29) rfl ?_); refine goesL_ (some 144) rfl rfl Try.func29 (by kernel_rfl) rfl #[.slice A1 l1.length c1] rfl gA ?_; (with_reducible refine (laws_toEditS.calls kj71 _ _ l1 t859 _ ?side1 ?side2 A123.out).mono ?_); (case side1 => exact cB HR1); (case side2 => exact HC1.out); rintro e w134 ⟨v860, rfl, ho0, hb⟩; refine ⟨_, rfl, ?_⟩; have n0_ := Aside0.mk (Kd.R_below (pR HO_8) hb); have n1_ := Aside0.mk (Kd.R_below (pR HO_9) hb); have n2_ := Aside0.mk (Kd.R_below (pR HO_14) hb); have n3_ := Aside0.mk (Kd.R_below (pR HO_15) hb); have n4_ := Aside0.mk (Kd.R_below (pR HO858) hb); have n5_ := Aside0.mk (Kd.R_lower ho0 (below_size (w := w) bW)); have n6_ := Aside0.mk (below_step (w := w) bW hb); clear HO_8; clear HO_9; clear HO_14; clear HO_15; clear HO858; clear HB; have HO_8 := n0_; have HO_9 := n1_; have HO_14 := n2_; have HO_15 := n3_; have HO858 := n4_; have HO861 := n5_; have HB := n6_; clear n0_ n1_ n2_ n3_ n4_ n5_ n6_; (try clear hb); (try clear ho0)) | ((with_reducible refine gate_callee (f := 29) rfl ?_); refine goesL_ (some 146) rfl rfl Try.func29 (by kernel_rfl) rfl #[.slice A2 l2.length c2] rfl gA ?_; (with_reducible refine (laws_toEditS.calls kj71 _ _ l2 t862 _ ?side1 ?side2 A124.out).mono ?_); (case side1 => exact cB HR2); (case side2 => exact HC2.out); rintro e w135 ⟨v863, rfl, ho0, hb⟩; refine ⟨_, rfl, ?_⟩; have n0_ := Aside0.mk (Kd.R_below (pR HO_8) hb); have n1_ := Aside0.mk (Kd.R_below (pR HO_9) hb); have n2_ := Aside0.mk (Kd.R_below (pR HO_14) hb); have n3_ := Aside0.mk (Kd.R_below (pR HO_15) hb); have n4_ := Aside0.mk (Kd.R_below (pR HO858) hb); have n5_ := Aside0.mk (Kd.R_elder' (pR HO861) (Kd.R_base ho0) hb); have n6_ := Aside0.mk (Kd.R_lower (Kd.R_new' ho0 (Kd.R_lt (pR HO861))) (below_size (w := w) bW)); have n7_ := Aside0.mk (below_step (w := w) bW hb); clear HO_8; clear HO_9; clear HO_14; clear HO_15; clear HO858; clear HO861; clear HB; have HO_8 := n0_; have HO_9 := n1_; have HO_14 := n2_; have HO_15 := n3_; have HO858 := n4_; have HO861 := n5_; have HO864 := n6_; have HB := n7_; clear n0_ n1_ n2_ n3_ n4_ n5_ n6_ n7_; (try clear hb); (try clear ho0); obtain ⟨Ao136, co136, eo136⟩ := Kd.R_slice HO858.out; subst eo136; obtain ⟨Ao137, co137, eo137⟩ := Kd.R_slice HO861.out; subst eo137; obtain ⟨Ao138, co138, eo138⟩ := Kd.R_slice HO864.out; subst eo138) | ((with_reducible refine gate_callee (f := 30) rfl ?_); refine goesL_ (some 147) rfl rfl Try.func30 (by kernel_rfl) rfl #[.slice Ao136 t856.length co136, .slice Ao137 t859.length co137, .slice Ao138 t862.length co138] rfl gA ?_; (with_reducible refine (impl_MergeEdits.calls kj71 _ _ t856 _ _ t859 _ _ t862 t865 t866 t867 _ ?side1 ?side2 ?side3 ?side4 ?side5 ?side6 A125.out).mono ?_); (case side1 => repeat (exact (Kd.R_reads' HO858.out).2.2)); (case side2 => exact (Kd.R_reads' HO858.out).2.1); (case side3 => repeat (exact (Kd.R_reads' HO861.out).2.2)); (case side4 => exact (Kd.R_reads' HO861.out).2.1); (case side5 => repeat (exact (Kd.R_reads' HO864.out).2.2)); (case side6 => exact (Kd.R_reads' HO864.out).2.1); rintro e w139 ⟨v868, v870, rfl, ho0, ho1, hb⟩; refine ⟨_, rfl, ?_⟩; have n0_ := Aside0.mk (Kd.R_elder' (pR HO_8) (Kd.R_base ho0) hb); have n1_ := Aside0.mk (Kd.R_elder' (pR HO_9) (Kd.R_base ho1) hb); have n2_ := Aside0.mk (Kd.R_elder' (pR HO_14) (Kd.R_base ho0) hb); have n3_ := Aside0.mk (Kd.R_elder' (pR HO_15) (Kd.R_base ho1) hb); have n4_ := Aside0.mk (Kd.R_elder' (pR HO858) (Kd.R_base ho0) hb); have n5_ := Aside0.mk (Kd.R_below (pR HO861) hb); have n6_ := Aside0.mk (Kd.R_below (pR HO864) hb); have n7_ := Aside0.mk (Kd.R_lower (Kd.R_new' (Kd.R_new' (Kd.R_new' ho0 (Kd.R_lt (pR HO_8))) (Kd.R_lt (pR HO_14))) (Kd.R_lt (pR HO858))) (below_size (w := w) bW)); have n8_ := Aside0.mk (Kd.R_lower (Kd.R_new' (Kd.R_new' ho1 (Kd.R_lt (pR HO_9))) (Kd.R_lt (pR HO_15))) (below_size (w := w) bW)); have n9_ := Aside0.mk (below_step (w := w) bW hb); clear HO_8; clear HO_9; clear HO_14; clear HO_15; clear HO858; clear HO861; clear HO864; clear HB; have HO_8 := n0_; have HO_9 := n1_; have HO_14 := n2_; have HO_15 := n3_; have HO858 := n4_; have HO861 := n5_; have HO864 := n6_; have HO869 := n7_; have HO871 := n8_; have HB := n9_; clear n0_ n1_ n2_ n3_ n4_ n5_ n6_ n7_ n8_ n9_; (try clear hb); (try clear ho0); (try clear ho1)))
                                go_cut [165] (fun v165 wc => ∃ (kq : Nat) (x165_125 : Bool), v165 = .bool x165_125 ∧ Aside0 (laws_FnExactMergeEdits.j2 kq t851 t853 t852 x165_125 = some true) ∧ Aside0 (kq ≤ kj71) ∧ Aside0 (Kd.R k55 55 wc w.heap.size (fun _ => True) (.slice Ao127 t821.length co127) t851) ∧ Aside0 (Kd.R Kd.string 9 wc w.heap.size (fun _ => True) (.slice Ao129 t822.length co129) t853) ∧ Aside0 (Below w.heap.size w wc))
                                case first =>
                                  have H := HC126.out
                                  clear HC126
                                  replace H := Option.bind_eq_some_iff.mp H
                                  obtain ⟨t872, A1400, H⟩ := H
                                  replace H : (if t872 = true then ((laws_eqStringS.f kj71 t866 t806).bind fun t873 => (if t873 = true then (laws_FnExactMergeEdits.j2 kj71 t851 t853 t852 (t867 != t807)) else (laws_FnExactMergeEdits.j2 kj71 t851 t853 t852 true))) else (laws_FnExactMergeEdits.j2 kj71 t851 t853 t852 true)) = some true := H
                                  have A140 := Aside0.mk A1400
                                  clear A1400
                                  by_cases c141 : t872 = true
                                  · subst c141
                                    have H1 : ((laws_eqStringS.f kj71 t866 t806).bind fun t873 => (if t873 = true then (laws_FnExactMergeEdits.j2 kj71 t851 t853 t852 (t867 != t807)) else (laws_FnExactMergeEdits.j2 kj71 t851 t853 t852 true))) = some true := by rw [if_pos rfl] at H; exact H
                                    clear H
                                    have H := H1
                                    clear H1
                                    replace H := Option.bind_eq_some_iff.mp H
                                    obtain ⟨t873, A1420, H⟩ := H
                                    replace H : (if t873 = true then (laws_FnExactMergeEdits.j2 kj71 t851 t853 t852 (t867 != t807)) else (laws_FnExactMergeEdits.j2 kj71 t851 t853 t852 true)) = some true := H
                                    have A142 := Aside0.mk A1420
                                    clear A1420
                                    by_cases c143 : t873 = true
                                    · subst c143
                                      have H1 : (laws_FnExactMergeEdits.j2 kj71 t851 t853 t852 (t867 != t807)) = some true := by rw [if_pos rfl] at H; exact H
                                      clear H
                                      have H := H1
                                      clear H1
                                      have H' := Aside0.mk H
                                      clear H
                                      obtain ⟨Ao144, co144, eo144⟩ := Kd.R_slice HO869.out
                                      subst eo144
                                      obtain ⟨Ao145, co145, eo145⟩ := Kd.R_slice HO_8.out
                                      subst eo145
                                      go_wp2_with (first | ((with_reducible refine gate_callee (f := 13) rfl ?_); refine goesL_ (some 153) rfl rfl Try.func13 (by kernel_rfl) rfl #[.slice Ao144 t865.length co144, .slice Ao145 t805.length co145] rfl gA ?_; (with_reducible refine (laws_eqEntryS.calls kj71 _ _ t865 _ _ t805 true _ ?side1 ?side2 ?side3 ?side4 A140.out).mono ?_); (case side1 => repeat (exact (Kd.R_reads' HO869.out).2.2)); (case side2 => exact (Kd.R_reads' HO869.out).2.1); (case side3 => repeat (exact (Kd.R_reads' HO_8.out).2.2)); (case side4 => exact (Kd.R_reads' HO_8.out).2.1); rintro e w146 ⟨rfl, hb⟩; refine ⟨_, rfl, ?_⟩; have n0_ := Aside0.mk (Kd.R_below (pR HO_8) hb); have n1_ := Aside0.mk (Kd.R_below (pR HO_9) hb); have n2_ := Aside0.mk (Kd.R_below (pR HO_14) hb); have n3_ := Aside0.mk (Kd.R_below (pR HO_15) hb); have n4_ := Aside0.mk (Kd.R_below (pR HO858) hb); have n5_ := Aside0.mk (Kd.R_below (pR HO861) hb); have n6_ := Aside0.mk (Kd.R_below (pR HO864) hb); have n7_ := Aside0.mk (Kd.R_below (pR HO869) hb); have n8_ := Aside0.mk (Kd.R_below (pR HO871) hb); have n9_ := Aside0.mk (below_step (w := w) bW hb); clear HO_8; clear HO_9; clear HO_14; clear HO_15; clear HO858; clear HO861; clear HO864; clear HO869; clear HO871; clear HB; have HO_8 := n0_; have HO_9 := n1_; have HO_14 := n2_; have HO_15 := n3_; have HO858 := n4_; have HO861 := n5_; have HO864 := n6_; have HO869 := n7_; have HO871 := n8_; have HB := n9_; clear n0_ n1_ n2_ n3_ n4_ n5_ n6_ n7_ n8_ n9_; (try clear hb); obtain ⟨Ao147, co147, eo147⟩ := Kd.R_slice HO871.out; subst eo147; obtain ⟨Ao148, co148, eo148⟩ := Kd.R_slice HO_9.out; subst eo148) | (go_at_call 12; (with_reducible refine (laws_eqStringS.calls kj71 _ _ t866 _ _ t806 true _ ?side1 ?side2 ?side3 ?side4 A142.out).mono ?_); (case side1 => repeat (exact (Kd.R_reads' HO871.out).2.2)); (case side2 => exact (Kd.R_reads' HO871.out).2.1); (case side3 => repeat (exact (Kd.R_reads' HO_9.out).2.2)); (case side4 => exact (Kd.R_reads' HO_9.out).2.1); rintro e w' ⟨rfl, ⟨nd, rfl⟩⟩))
                                      go_meet
                                      case rel => exact ⟨_, ((t867 != t807)), vE, H', ⟨by have := HJ23.out; have := HJ71.out; omega⟩, ⟨by (with_reducible repeat (apply Kd.R_drewN)); exact Kd.R_mono HO_14.out (fun _ hk => trivial)⟩, ⟨by (with_reducible repeat (apply Kd.R_drewN)); exact Kd.R_mono HO_15.out (fun _ hk => trivial)⟩, ⟨bW⟩⟩
                                    · replace c143 := Bool.eq_false_iff.mpr c143
                                      subst c143
                                      have H1 : (laws_FnExactMergeEdits.j2 kj71 t851 t853 t852 true) = some true := by rw [if_neg (show ¬ (false = true) by decide)] at H; exact H
                                      clear H
                                      have H := H1
                                      clear H1
                                      have H' := Aside0.mk H
                                      clear H
                                      obtain ⟨Ao149, co149, eo149⟩ := Kd.R_slice HO869.out
                                      subst eo149
                                      obtain ⟨Ao150, co150, eo150⟩ := Kd.R_slice HO_8.out
                                      subst eo150
                                      go_wp2_with (first | ((with_reducible refine gate_callee (f := 13) rfl ?_); refine goesL_ (some 153) rfl rfl Try.func13 (by kernel_rfl) rfl #[.slice Ao149 t865.length co149, .slice Ao150 t805.length co150] rfl gA ?_; (with_reducible refine (laws_eqEntryS.calls kj71 _ _ t865 _ _ t805 true _ ?side1 ?side2 ?side3 ?side4 A140.out).mono ?_); (case side1 => repeat (exact (Kd.R_reads' HO869.out).2.2)); (case side2 => exact (Kd.R_reads' HO869.out).2.1); (case side3 => repeat (exact (Kd.R_reads' HO_8.out).2.2)); (case side4 => exact (Kd.R_reads' HO_8.out).2.1); rintro e w151 ⟨rfl, hb⟩; refine ⟨_, rfl, ?_⟩; have n0_ := Aside0.mk (Kd.R_below (pR HO_8) hb); have n1_ := Aside0.mk (Kd.R_below (pR HO_9) hb); have n2_ := Aside0.mk (Kd.R_below (pR HO_14) hb); have n3_ := Aside0.mk (Kd.R_below (pR HO_15) hb); have n4_ := Aside0.mk (Kd.R_below (pR HO858) hb); have n5_ := Aside0.mk (Kd.R_below (pR HO861) hb); have n6_ := Aside0.mk (Kd.R_below (pR HO864) hb); have n7_ := Aside0.mk (Kd.R_below (pR HO869) hb); have n8_ := Aside0.mk (Kd.R_below (pR HO871) hb); have n9_ := Aside0.mk (below_step (w := w) bW hb); clear HO_8; clear HO_9; clear HO_14; clear HO_15; clear HO858; clear HO861; clear HO864; clear HO869; clear HO871; clear HB; have HO_8 := n0_; have HO_9 := n1_; have HO_14 := n2_; have HO_15 := n3_; have HO858 := n4_; have HO861 := n5_; have HO864 := n6_; have HO869 := n7_; have HO871 := n8_; have HB := n9_; clear n0_ n1_ n2_ n3_ n4_ n5_ n6_ n7_ n8_ n9_; (try clear hb); obtain ⟨Ao152, co152, eo152⟩ := Kd.R_slice HO871.out; subst eo152; obtain ⟨Ao153, co153, eo153⟩ := Kd.R_slice HO_9.out; subst eo153) | (go_at_call 12; (with_reducible refine (laws_eqStringS.calls kj71 _ _ t866 _ _ t806 false _ ?side1 ?side2 ?side3 ?side4 A142.out).mono ?_); (case side1 => repeat (exact (Kd.R_reads' HO871.out).2.2)); (case side2 => exact (Kd.R_reads' HO871.out).2.1); (case side3 => repeat (exact (Kd.R_reads' HO_9.out).2.2)); (case side4 => exact (Kd.R_reads' HO_9.out).2.1); rintro e w' ⟨rfl, ⟨nd, rfl⟩⟩))
                                      go_meet
                                      case rel => exact ⟨_, (true), vE, H', ⟨by have := HJ23.out; have := HJ71.out; omega⟩, ⟨by (with_reducible repeat (apply Kd.R_drewN)); exact Kd.R_mono HO_14.out (fun _ hk => trivial)⟩, ⟨by (with_reducible repeat (apply Kd.R_drewN)); exact Kd.R_mono HO_15.out (fun _ hk => trivial)⟩, ⟨bW⟩⟩
                                  · replace c141 := Bool.eq_false_iff.mpr c141
                                    subst c141
                                    have H1 : (laws_FnExactMergeEdits.j2 kj71 t851 t853 t852 true) = some true := by rw [if_neg (show ¬ (false = true) by decide)] at H; exact H
                                    clear H
                                    have H := H1
                                    clear H1
                                    have H' := Aside0.mk H
                                    clear H
                                    obtain ⟨Ao154, co154, eo154⟩ := Kd.R_slice HO869.out
                                    subst eo154
                                    obtain ⟨Ao155, co155, eo155⟩ := Kd.R_slice HO_8.out
                                    subst eo155
                                    go_wp2_with (((with_reducible refine gate_callee (f := 13) rfl ?_); refine goesL_ (some 153) rfl rfl Try.func13 (by kernel_rfl) rfl #[.slice Ao154 t865.length co154, .slice Ao155 t805.length co155] rfl gA ?_; (with_reducible refine (laws_eqEntryS.calls kj71 _ _ t865 _ _ t805 false _ ?side1 ?side2 ?side3 ?side4 A140.out).mono ?_); (case side1 => repeat (exact (Kd.R_reads' HO869.out).2.2)); (case side2 => exact (Kd.R_reads' HO869.out).2.1); (case side3 => repeat (exact (Kd.R_reads' HO_8.out).2.2)); (case side4 => exact (Kd.R_reads' HO_8.out).2.1); rintro e w156 ⟨rfl, hb⟩; refine ⟨_, rfl, ?_⟩; have n0_ := Aside0.mk (Kd.R_below (pR HO_8) hb); have n1_ := Aside0.mk (Kd.R_below (pR HO_9) hb); have n2_ := Aside0.mk (Kd.R_below (pR HO_14) hb); have n3_ := Aside0.mk (Kd.R_below (pR HO_15) hb); have n4_ := Aside0.mk (Kd.R_below (pR HO858) hb); have n5_ := Aside0.mk (Kd.R_below (pR HO861) hb); have n6_ := Aside0.mk (Kd.R_below (pR HO864) hb); have n7_ := Aside0.mk (Kd.R_below (pR HO869) hb); have n8_ := Aside0.mk (Kd.R_below (pR HO871) hb); have n9_ := Aside0.mk (below_step (w := w) bW hb); clear HO_8; clear HO_9; clear HO_14; clear HO_15; clear HO858; clear HO861; clear HO864; clear HO869; clear HO871; clear HB; have HO_8 := n0_; have HO_9 := n1_; have HO_14 := n2_; have HO_15 := n3_; have HO858 := n4_; have HO861 := n5_; have HO864 := n6_; have HO869 := n7_; have HO871 := n8_; have HB := n9_; clear n0_ n1_ n2_ n3_ n4_ n5_ n6_ n7_ n8_ n9_; (try clear hb)))
                                    go_meet
                                    case rel => exact ⟨_, (true), vE, H', ⟨by have := HJ23.out; have := HJ71.out; omega⟩, ⟨by exact Kd.R_mono HO_14.out (fun _ hk => trivial)⟩, ⟨by exact Kd.R_mono HO_15.out (fun _ hk => trivial)⟩, ⟨bW⟩⟩
                                case rest =>
                                  clear HC126
                                  try clear c107b0
                                  try clear c114b0
                                  try clear c121b0
                                  try clear c121b1
                                  obtain ⟨kq, x165_125, rfl, HA, HJ125, HO_14, HO_15, HB⟩ := hcut
                                  have hl14_125 := (Kd.R_reads' HO_14.out).1
                                  rw [hl14_125] at HO_14
                                  (try simp only [hl14_125])
                                  have hl15_125 := (Kd.R_reads' HO_15.out).1
                                  rw [hl15_125] at HO_15
                                  (try simp only [hl15_125])
                                  cases kq with
                                  | zero => exact absurd HA.out (by simp [laws_FnExactMergeEdits.j2])
                                  | succ kj125 =>
                                    have H := HA.out
                                    clear HA
                                    simp only [laws_FnExactMergeEdits.j2] at H
                                    by_cases c157 : x165_125 = true
                                    · subst c157
                                      have H1 : (some false) = some true := by rw [if_pos rfl] at H; exact H
                                      exact absurd H1 (by simp)
                                    · replace c157 := Bool.eq_false_iff.mpr c157
                                      subst c157
                                      have H1 : ((laws_heldEntryS.f kj125 t851 1).bind fun t874 => (if t874 < 0 then (some false) else ((laws_heldStringS.f kj125 t853 t874).bind fun t875 => (if t875 < 0 then (some false) else (if t875 = t852 then (some true) else (some false)))))) = some true := by rw [if_neg (show ¬ (false = true) by decide)] at H; exact H
                                      clear H
                                      have H := H1
                                      clear H1
                                      replace H := Option.bind_eq_some_iff.mp H
                                      obtain ⟨t874, A1580, H⟩ := H
                                      replace H : (if t874 < 0 then (some false) else ((laws_heldStringS.f kj125 t853 t874).bind fun t875 => (if t875 < 0 then (some false) else (if t875 = t852 then (some true) else (some false))))) = some true := H
                                      have A158 := Aside0.mk A1580
                                      clear A1580
                                      by_cases c159 : t874 < 0
                                      · rw [if_pos c159] at H
                                        exact absurd H (by simp)
                                      · rw [if_neg c159] at H
                                        have c159b0 : decide (t874 < 0) = false := decide_eq_false c159
                                        clear c159
                                        replace H := Option.bind_eq_some_iff.mp H
                                        obtain ⟨t875, A1610, H⟩ := H
                                        replace H : (if t875 < 0 then (some false) else (if t875 = t852 then (some true) else (some false))) = some true := H
                                        have A161 := Aside0.mk A1610
                                        clear A1610
                                        by_cases c162 : t875 < 0
                                        · rw [if_pos c162] at H
                                          exact absurd H (by simp)
                                        · rw [if_neg c162] at H
                                          have c162b0 : decide (t875 < 0) = false := decide_eq_false c162
                                          clear c162
                                          by_cases c165 : t875 = t852
                                          · rw [if_pos c165] at H
                                            have c165b0 : (t875 == t852) = true := beq_iff_eq.mpr c165
                                            have c165b1 : (t875 != t852) = false := bne_eq_false_iff_eq.mpr c165
                                            clear c165
                                            clear H
                                            go_wp2_with (first | ((with_reducible refine gate_callee (f := 24) rfl ?_); refine goesL_ (some 168) rfl rfl Try.func24 (by kernel_rfl) rfl #[.slice Ao127 t851.length co127, .int .i64 1] rfl gA ?_; (with_reducible refine (laws_heldEntryS.calls kj125 _ _ t851 1 t874 _ ?side1 ?side2 A158.out).mono ?_); (case side1 => repeat (exact (Kd.R_reads' HO_14.out).2.2)); (case side2 => exact (Kd.R_reads' HO_14.out).2.1); rintro e w166 ⟨rfl, hb⟩; refine ⟨_, rfl, ?_⟩; have n0_ := Aside0.mk (Kd.R_below (pR HO_14) hb); have n1_ := Aside0.mk (Kd.R_below (pR HO_15) hb); have n2_ := Aside0.mk (below_step (w := w) bW hb); clear HO_14; clear HO_15; clear HB; have HO_14 := n0_; have HO_15 := n1_; have HB := n2_; clear n0_ n1_ n2_; (try clear hb)) | ((with_reducible refine gate_callee (f := 16) rfl ?_); refine goesL_ (some 173) rfl rfl Try.func16 (by kernel_rfl) rfl #[.slice Ao129 t853.length co129, .int .i64 t874] rfl gA ?_; (with_reducible refine (laws_heldStringS.calls kj125 _ _ t853 t874 t875 _ ?side1 ?side2 A161.out).mono ?_); (case side1 => repeat (exact (Kd.R_reads' HO_15.out).2.2)); (case side2 => exact (Kd.R_reads' HO_15.out).2.1); rintro e w167 ⟨rfl, hb⟩; refine ⟨_, rfl, ?_⟩; have n0_ := Aside0.mk (Kd.R_below (pR HO_14) hb); have n1_ := Aside0.mk (Kd.R_below (pR HO_15) hb); have n2_ := Aside0.mk (below_step (w := w) bW hb); clear HO_14; clear HO_15; clear HB; have HO_14 := n0_; have HO_15 := n1_; have HB := n2_; clear n0_ n1_ n2_; (try clear hb)))
                                            go_ret
                                            exact ⟨rE, bW⟩
                                          · rw [if_neg c165] at H
                                            exact absurd H (by simp)
                              · rw [if_neg c121] at H
                                exact absurd H (by simp)
                  · replace c68 := Bool.eq_false_iff.mpr c68
                    subst c68
                    have H1 : (some false) = some true := by rw [if_neg (show ¬ (false = true) by decide)] at H; exact H
                    exact absurd H1 (by simp)
                · replace c65 := Bool.eq_false_iff.mpr c65
                  subst c65
                  have H1 : (some false) = some true := by rw [if_neg (show ¬ (false = true) by decide)] at H; exact H
                  exact absurd H1 (by simp)
              · replace c62 := Bool.eq_false_iff.mpr c62
                subst c62
                have H1 : (some false) = some true := by rw [if_neg (show ¬ (false = true) by decide)] at H; exact H
                exact absurd H1 (by simp)
end Go.Proofs.Ytblejbgkcgajgaa.Q
end

section
namespace Go.Proofs.Ytblejbgkcgajgaa.Q
open Go.RowKit Go.Proofs.YtblejbgkcgajgaaW.PrintWords Go.Proofs.YtblejbgkcgajgaaW.PrintLast Go.Proofs.YtblejbgkcgajgaaW.PrintMore
attribute [local go_sem] max2_int min2_int max_two min_two max_three min_three max_four min_four   -- for this text's walks alone
set_option linter.unusedVariables false
set_option linter.unusedSimpArgs false
attribute [local go_sem] bin_leq bin_gtr bin_geq
def Opens {α : Type} (P : Program) (d : Kd α) (t : TypeId) (G : α → Prop) : Prop :=
  P.cellsOf t = d.sz ∧ ∀ {H : Type} (enc : TypeId × Value → H) (w : World) (base : Nat) (spare : Nat → Bool) (held : Bool) (fuel : Nat) (cs : List Value) (x : DataW H × List MemPlace),
    DataW.trod enc P w base spare held fuel t cs = some x → ∃ v, d.K w v cs ∧ G v
theorem add_twice (a : Addr) (m i : Nat) : (a.add m).add i = a.add (m + i) := by
  unfold Addr.add
  by_cases h1 : m = 0 <;> by_cases h2 : i = 0 <;> simp_all [Nat.add_assoc]
theorem opens_int {P : Program} {t : TypeId} {k : IntKind} (ht : P.underlying t = some (.int k)) (hc : P.cellsOf t = 1) : Opens P (Kd.int k) t (fun n => (Lit.int k n).wf = true) := by
  refine ⟨hc, fun enc w base spare held fuel cs x h => ?_⟩
  cases fuel with
  | zero => simp [DataW.trod] at h
  | succ n =>
    unfold DataW.trod at h
    rw [ht] at h
    split at h <;> simp_all
    obtain ⟨⟨rfl, h1⟩, _⟩ := h
    exact ⟨_, rfl, h1⟩
theorem opens_bool {P : Program} {t : TypeId} (ht : P.underlying t = some .bool) (hc : P.cellsOf t = 1) : Opens P Kd.bool t (fun _ => True) := by
  refine ⟨hc, fun enc w base spare held fuel cs x h => ?_⟩
  cases fuel with
  | zero => simp [DataW.trod] at h
  | succ n =>
    unfold DataW.trod at h
    rw [ht] at h
    split at h <;> simp_all
    rename_i b
    cases b
    · exact .inl rfl
    · exact .inr rfl
theorem opens_string {P : Program} {t : TypeId} (ht : P.underlying t = some .string) (hc : P.cellsOf t = 1) : Opens P Kd.string t (fun s => s.size ≤ 9223372036854775807) := by
  refine ⟨hc, fun enc w base spare held fuel cs x h => ?_⟩
  cases fuel with
  | zero => simp [DataW.trod] at h
  | succ n =>
    unfold DataW.trod at h
    rw [ht] at h
    split at h <;> simp_all
    exact ⟨_, rfl, h.1⟩
theorem list_of {α : Type} {Q : Nat → α → Prop} : ∀ n, (∀ i, i < n → ∃ v, Q i v) → ∃ l : List α, l.length = n ∧ ∀ i v, l[i]? = some v → Q i v
  | 0, _ => ⟨[], rfl, fun i v h => by simp at h⟩
  | n + 1, h => by
    obtain ⟨l, hl, hq⟩ := list_of n (fun i hi => h i (by omega))
    obtain ⟨v, hv⟩ := h n (by omega)
    refine ⟨l ++ [v], by simp [hl], fun i u hu => ?_⟩
    by_cases hi : i < l.length
    · rw [List.getElem?_append_left hi] at hu
      exact hq i u hu
    · have hi2 : i = l.length := by
        have := (List.getElem?_eq_some_iff.1 hu).1
        rw [List.length_append, List.length_singleton] at this
        omega
      subst hi2
      have hu' : v = u := by simpa using hu
      subst hu'
      rw [hl]
      exact hv
theorem opens_slice {α : Type} {P : Program} {d : Kd α} {t e : TypeId} {G : α → Prop} (ht : P.underlying t = some (.slice e)) (hc : P.cellsOf t = 1) (O : Opens P d e G) :
    Opens P (Kd.slice e d) t (fun l => l.length ≤ 9223372036854775807 ∧ ∀ x, x ∈ l → G x) := by
  refine ⟨hc, fun enc w base spare held fuel cs x h => ?_⟩
  rcases DataW.trod_slice ht h with ⟨rfl, _⟩ | ⟨a, len, cap, elems, rest, n, _, rfl, _, hb, hl, hm, hlen, hel, _, _⟩
  · exact ⟨[], ⟨none, 0, rfl, Nat.le_refl _, Kd.C_nil d w⟩, by simp, fun x hx => by simp at hx⟩
  · have each : ∀ i, i < len → ∃ v : α, (∃ c, c.length = d.sz ∧ d.K w v c ∧ ∀ j u, c[j]? = some u → w.cell? (a.add (i * d.sz + j)) = some u) ∧ G v := by
      intro i hi
      have h1 := hel i hi
      have h2 : elems[i]? = some (elems[i]'(by omega)) := List.getElem?_eq_getElem (by omega)
      rw [h2, Option.bind_eq_some_iff] at h1
      obtain ⟨c, hcc, htr⟩ := h1
      obtain ⟨v, hK, hG⟩ := O.2 enc w base spare held n c _ htr
      obtain ⟨_, hcl, hcells⟩ := World.cells?_some hcc
      refine ⟨v, ⟨c, d.K_len hK, hK, fun j u hu => ?_⟩, hG⟩
      have hj : j < c.length := (List.getElem?_eq_some_iff.1 hu).1
      have := hcells j (by omega)
      rw [hu, add_twice, O.1] at this
      exact this
    obtain ⟨l, hll, hq⟩ := list_of len each
    refine ⟨l, ⟨some a, cap, by rw [hll], by omega, hll ▸ ?_⟩, by unfold maxLen at hm; omega, fun x hx => ?_⟩
    · refine ⟨hll, by unfold maxLen at hm; omega, fun hp => ⟨a, rfl, fun j p hj => ?_⟩⟩
      obtain ⟨c, h1, h2, h3⟩ := (hq j p hj).1
      exact ⟨c, h1, h2, h3⟩
    · obtain ⟨i, hi, rfl⟩ := List.mem_iff_getElem.mp hx
      exact (hq i _ (List.getElem?_eq_getElem hi)).2
theorem open_row {α : Type} {P : Program} {d : Kd α} {t e : TypeId} {G : List α → Prop} (O : Opens P (Kd.slice e d) t G) {H : Type} {enc : TypeId × Value → H} {w : World} {base : Nat} {spare : Nat → Bool} {held : Bool} {a : Option Addr} {len cap : Nat} {x : DataW H} {ps : List MemPlace}
    (h : DataW.Trod enc P w base spare held t (.slice a len cap) x ps) : ∃ l, len = l.length ∧ l.length ≤ cap ∧ Kd.C d w a l.length l ∧ G l := by
  obtain ⟨fuel, hf⟩ := h
  obtain ⟨l, ⟨A, c, he, hl, hC⟩, hG⟩ := O.2 enc w base spare held fuel _ _ hf
  simp only [Value.cells] at he
  have he2 : Value.slice a len cap = Value.slice A l.length c := by simpa using he
  injection he2 with h1 h2 h3
  subst h1 h2 h3
  exact ⟨l, rfl, hl, hC, hG⟩
end Go.Proofs.Ytblejbgkcgajgaa.Q
end

section
namespace Go.Proofs.Ytblejbgkcgajgaa.Q
open Go.RowKit Go.Proofs.YtblejbgkcgajgaaW.PrintWords Go.Proofs.YtblejbgkcgajgaaW.PrintLast Go.Proofs.YtblejbgkcgajgaaW.PrintMore
attribute [local go_sem] max2_int min2_int max_two min_two max_three min_three max_four min_four   -- for this text's walks alone
set_option linter.unusedVariables false
set_option linter.unusedSimpArgs false
attribute [local go_sem] bin_leq bin_gtr bin_geq
def good51 (x : S51) : Prop := (fun s => s.size ≤ 9223372036854775807) x.f0 ∧ (fun n => (Lit.int .i64 n).wf = true) x.f1
set_option maxRecDepth 100000 in
theorem opens_51 : Opens Try.prog k51 51 good51 := by
  refine ⟨by kernel_rfl, fun enc w base spare held fuel cs x h => ?_⟩
  obtain ⟨xs, n, _, _, hcl, hxl, hf⟩ := DataW.trod_struct Try.underlying51 h
  have hcl2 : cs.length = 2 := hcl.trans (by kernel_rfl)
  obtain ⟨c0, c1, rfl⟩ : ∃ c0 c1, cs = [c0, c1] := by
    match cs, hcl2 with
    | [c0, c1], _ => exact ⟨c0, c1, rfl⟩
  have h0 := hf 0 _ rfl
  rw [List.getElem?_eq_getElem (show 0 < xs.length by rw [hxl]; decide)] at h0
  obtain ⟨v0, K0, G0⟩ := (opens_string Try.underlying9 (by kernel_rfl)).2 enc w base spare held n [c0] _ ((show DataW.trod enc Try.prog w base spare held n 9 [c0] = _ from (by first | exact h0 | (rw [show Try.prog.cellsOf 9 = 1 by kernel_rfl] at h0; exact h0))))
  have h1 := hf 1 _ rfl
  rw [List.getElem?_eq_getElem (show 1 < xs.length by rw [hxl]; decide)] at h1
  obtain ⟨v1, K1, G1⟩ := (opens_int (k := .i64) Try.underlying3 (by kernel_rfl)).2 enc w base spare held n [c1] _ ((show DataW.trod enc Try.prog w base spare held n 3 [c1] = _ from (by first | exact h1 | (rw [show Try.prog.cellsOf 3 = 1 by kernel_rfl] at h1; exact h1))))
  exact ⟨⟨v0, v1⟩, ⟨[c0], [c1], rfl, K0, K1⟩, ⟨G0, G1⟩⟩
end Go.Proofs.Ytblejbgkcgajgaa.Q
end

section
namespace Go.Proofs.Ytblejbgkcgajgaa.Q
open Go.RowKit Go.Proofs.YtblejbgkcgajgaaW.PrintWords Go.Proofs.YtblejbgkcgajgaaW.PrintLast Go.Proofs.YtblejbgkcgajgaaW.PrintMore
attribute [local go_sem] max2_int min2_int max_two min_two max_three min_three max_four min_four   -- for this text's walks alone
set_option linter.unusedVariables false
set_option linter.unusedSimpArgs false
attribute [local go_sem] bin_leq bin_gtr bin_geq
def good67 (x : S67) : Prop := (fun s => s.size ≤ 9223372036854775807) x.f0 ∧ (fun n => (Lit.int .i64 n).wf = true) x.f1 ∧ (fun _ => True) x.f2
set_option maxRecDepth 100000 in
theorem opens_67 : Opens Try.prog k67 67 good67 := by
  refine ⟨by kernel_rfl, fun enc w base spare held fuel cs x h => ?_⟩
  obtain ⟨xs, n, _, _, hcl, hxl, hf⟩ := DataW.trod_struct Try.underlying67 h
  have hcl2 : cs.length = 3 := hcl.trans (by kernel_rfl)
  obtain ⟨c0, c1, c2, rfl⟩ : ∃ c0 c1 c2, cs = [c0, c1, c2] := by
    match cs, hcl2 with
    | [c0, c1, c2], _ => exact ⟨c0, c1, c2, rfl⟩
  have h0 := hf 0 _ rfl
  rw [List.getElem?_eq_getElem (show 0 < xs.length by rw [hxl]; decide)] at h0
  obtain ⟨v0, K0, G0⟩ := (opens_string Try.underlying9 (by kernel_rfl)).2 enc w base spare held n [c0] _ ((show DataW.trod enc Try.prog w base spare held n 9 [c0] = _ from (by first | exact h0 | (rw [show Try.prog.cellsOf 9 = 1 by kernel_rfl] at h0; exact h0))))
  have h1 := hf 1 _ rfl
  rw [List.getElem?_eq_getElem (show 1 < xs.length by rw [hxl]; decide)] at h1
  obtain ⟨v1, K1, G1⟩ := (opens_int (k := .i64) Try.underlying3 (by kernel_rfl)).2 enc w base spare held n [c1] _ ((show DataW.trod enc Try.prog w base spare held n 3 [c1] = _ from (by first | exact h1 | (rw [show Try.prog.cellsOf 3 = 1 by kernel_rfl] at h1; exact h1))))
  have h2 := hf 2 _ rfl
  rw [List.getElem?_eq_getElem (show 2 < xs.length by rw [hxl]; decide)] at h2
  obtain ⟨v2, K2, G2⟩ := (opens_bool Try.underlying4 (by kernel_rfl)).2 enc w base spare held n [c2] _ ((show DataW.trod enc Try.prog w base spare held n 4 [c2] = _ from (by first | exact h2 | (rw [show Try.prog.cellsOf 4 = 1 by kernel_rfl] at h2; exact h2))))
  exact ⟨⟨v0, v1, v2⟩, ⟨[c0], [c1, c2], rfl, K0, ⟨[c1], [c2], rfl, K1, K2⟩⟩, ⟨G0, G1, G2⟩⟩
end Go.Proofs.Ytblejbgkcgajgaa.Q
end

section
namespace Go.Proofs.Ytblejbgkcgajgaa.Q
open Go.RowKit Go.Proofs.YtblejbgkcgajgaaW.PrintWords Go.Proofs.YtblejbgkcgajgaaW.PrintLast Go.Proofs.YtblejbgkcgajgaaW.PrintMore
attribute [local go_sem] max2_int min2_int max_two min_two max_three min_three max_four min_four   -- for this text's walks alone
set_option linter.unusedVariables false
set_option linter.unusedSimpArgs false
attribute [local go_sem] bin_leq bin_gtr bin_geq
def laws_FnExactMergeEdits.Pure : Prop := ∀ (l0 : List (S51)) (l1 : List (S67)) (l2 : List (S67)), (fun l => l.length ≤ 9223372036854775807 ∧ ∀ x, x ∈ l → good51 x) l0 → (fun l => l.length ≤ 9223372036854775807 ∧ ∀ x, x ∈ l → good67 x) l1 → (fun l => l.length ≤ 9223372036854775807 ∧ ∀ x, x ∈ l → good67 x) l2 → ∃ k, laws_FnExactMergeEdits.f k l0 l1 l2 = some true
theorem laws_FnExactMergeEdits.walk (P : laws_FnExactMergeEdits.Pure) (A0 : Option Addr) (c0 : Nat) (l0 : List (S51)) (A1 : Option Addr) (c1 : Nat) (l1 : List (S67)) (A2 : Option Addr) (c2 : Nat) (l2 : List (S67)) (w : World) (w0 : (fun l => l.length ≤ 9223372036854775807 ∧ ∀ x, x ∈ l → good51 x) l0) (w1 : (fun l => l.length ≤ 9223372036854775807 ∧ ∀ x, x ∈ l → good67 x) l1) (w2 : (fun l => l.length ≤ 9223372036854775807 ∧ ∀ x, x ∈ l → good67 x) l2) (hr0 : Kd.C k51 w A0 l0.length l0) (hc0 : l0.length ≤ c0) (hr1 : Kd.C k67 w A1 l1.length l1) (hc1 : l1.length ≤ c1) (hr2 : Kd.C k67 w A2 l2.length l2) (hc2 : l2.length ≤ c2) :
    Calls Try.prog 7 #[.slice A0 l0.length c0, .slice A1 l1.length c1, .slice A2 l2.length c2] w fun e w' => e = .returned (.bool true) ∧ Below w.heap.size w w' := by
  obtain ⟨k, hk⟩ := P l0 l1 l2 w0 w1 w2
  exact (laws_FnExactMergeEdits.calls k A0 c0 l0 A1 c1 l1 A2 c2 l2 w hr0 hc0 hr1 hc1 hr2 hc2 hk).mono fun e w' h => ⟨h.1, h.2⟩
end Go.Proofs.Ytblejbgkcgajgaa.Q
end

section
namespace Go.Proofs.Ytblejbgkcgajgaa.Q
open Go.RowKit Go.Proofs.YtblejbgkcgajgaaW.PrintWords Go.Proofs.YtblejbgkcgajgaaW.PrintLast
set_option linter.unusedVariables false
set_option linter.unusedSimpArgs false
theorem rdEntry {l : List S55} {i : Nat} (h : i < l.length) : rd_T55 l (i : Int) = l[i] := by
  simp [rd_T55, List.getD_eq_getElem?_getD, List.getElem?_eq_getElem h]
end Go.Proofs.Ytblejbgkcgajgaa.Q
end

section
namespace Go.Proofs.Ytblejbgkcgajgaa.Q
open Go.RowKit Go.Proofs.YtblejbgkcgajgaaW.PrintWords Go.Proofs.YtblejbgkcgajgaaW.PrintLast Go.Proofs.YtblejbgkcgajgaaW.PrintMore
attribute [local go_sem] max2_int min2_int max_two min_two max_three min_three max_four min_four   -- for this text's walks alone
set_option linter.unusedVariables false
set_option linter.unusedSimpArgs false
attribute [local go_sem] bin_leq bin_gtr bin_geq
theorem ev_map_loop {α β : Type} {L : Nat → List α → List β → Int → Option (List β)} {g : Nat → α → Option β} {cv : α → β} {z : α}
    (step : ∀ k xs acc i, L (k + 1) xs acc i = if i < (xs.length : Int) then (if 0 ≤ i then ((g k (xs.getD i.toNat z)).bind fun y => (if i < (acc.length : Int) then (L k xs (acc.set i.toNat y) (wrap64 (i + 1))) else none)) else none) else some acc)
    (xs : List α) (hlen : xs.length ≤ 4611686018427387904) (hg : ∀ x, x ∈ xs → Ev (fun k => g k x) (cv x)) (acc : List β) (ha : acc.length = xs.length) : Ev (fun k => L k xs acc 0) (xs.map cv) := by
  have key : ∀ d (i : Nat) (acc : List β), i + d = xs.length → acc.length = xs.length → Ev (fun k => L k xs acc (i : Int)) (acc.take i ++ (xs.drop i).map cv) := by
    intro d
    induction d with
    | zero =>
      intro i acc hi ha
      refine Ev.step (f := fun _ => some acc) (fun k => by rw [step, if_neg (by omega)]) ?_
      rw [List.take_of_length_le (by omega), List.drop_eq_nil_of_le (by omega)]
      simpa using Ev.now acc
    | succ d ih =>
      intro i acc hi ha
      have hl : i < xs.length := by omega
      have hw : wrap64 ((i : Int) + 1) = ((i + 1 : Nat) : Int) := by unfold wrap64; omega
      have hx : xs.getD ((i : Int).toNat) z = xs[i] := by simp [List.getD_eq_getElem?_getD, List.getElem?_eq_getElem hl]
      refine Ev.step (f := fun k => (g k xs[i]).bind fun y => L k xs (acc.set i y) ((i + 1 : Nat) : Int)) (fun k => ?_) ?_
      · rw [step, if_pos (by omega), if_pos (by omega), hx, hw]
        congr 1
        funext y
        rw [if_pos (by omega)]
        simp
      · have h2 := ih (i + 1) (acc.set i (cv xs[i])) (by omega) (by simpa using ha)
        have e : (acc.set i (cv xs[i])).take (i + 1) ++ (xs.drop (i + 1)).map cv = acc.take i ++ (xs.drop i).map cv := by
          rw [List.drop_eq_getElem_cons hl, List.map_cons, List.take_succ_eq_append_getElem (by simpa using (show i < acc.length by omega)), List.take_set_of_le (by omega)]
          simp
        rw [e] at h2
        exact Ev.bind (hg _ (List.getElem_mem hl)) h2
  have h := key xs.length 0 acc (by omega) ha
  simpa using h
theorem ev_refl_loop {α : Type} {L : Nat → List α → List α → Int → Option Bool} {g : Nat → α → α → Option Bool} {z : α}
    (step : ∀ k xs ys i, L (k + 1) xs ys i = if i < (xs.length : Int) then (if 0 ≤ i then (if i < (ys.length : Int) then ((g k (xs.getD i.toNat z) (ys.getD i.toNat z)).bind fun t => (if t = true then L k xs ys (wrap64 (i + 1)) else some false)) else none) else none) else some true)
    (xs : List α) (hlen : xs.length ≤ 4611686018427387904) (hg : ∀ x, x ∈ xs → Ev (fun k => g k x x) true) : Ev (fun k => L k xs xs 0) true := by
  have key : ∀ d (i : Nat), i + d = xs.length → Ev (fun k => L k xs xs (i : Int)) true := by
    intro d
    induction d with
    | zero =>
      intro i hi
      exact Ev.step (f := fun _ => some true) (fun k => by rw [step, if_neg (by omega)]) (Ev.now true)
    | succ d ih =>
      intro i hi
      have hl : i < xs.length := by omega
      have hw : wrap64 ((i : Int) + 1) = ((i + 1 : Nat) : Int) := by unfold wrap64; omega
      have hx : xs.getD ((i : Int).toNat) z = xs[i] := by simp [List.getD_eq_getElem?_getD, List.getElem?_eq_getElem hl]
      refine Ev.step (f := fun k => (g k xs[i] xs[i]).bind fun t => if t = true then L k xs xs ((i + 1 : Nat) : Int) else some false) (fun k => ?_) ?_
      · rw [step, if_pos (by omega), if_pos (by omega), if_pos (by omega), hx, hw]
      · refine Ev.bind (hg _ (List.getElem_mem hl)) ?_
        simp only [if_true]
        exact ih (i + 1) (by omega)
  exact key xs.length 0 (by omega)
theorem ev_sz_loop {α : Type} {L : Nat → List α → Int → Int → Option Int} {g : Nat → α → Int → Option Int} {z : α}
    (step : ∀ k xs left i, L (k + 1) xs left i = if i < (xs.length : Int) then (if 0 ≤ i then ((g k (xs.getD i.toNat z) left).bind fun t => (if t < 0 then some (-1) else L k xs t (wrap64 (i + 1)))) else none) else some left)
    (xs : List α) (hlen : xs.length ≤ 4611686018427387904) (hg : ∀ x, x ∈ xs → ∀ left : Int, 0 ≤ left → left ≤ 1048576 → ∃ r, Ev (fun k => g k x left) r ∧ r ≤ left) (left : Int) (h0 : 0 ≤ left) (h1 : left ≤ 1048576) :
    ∃ r, Ev (fun k => L k xs left 0) r ∧ r ≤ left := by
  have key : ∀ d (i : Nat) (left : Int), i + d = xs.length → 0 ≤ left → left ≤ 1048576 → ∃ r, Ev (fun k => L k xs left (i : Int)) r ∧ r ≤ left := by
    intro d
    induction d with
    | zero =>
      intro i left hi h0 h1
      exact ⟨left, Ev.step (f := fun _ => some left) (fun k => by rw [step, if_neg (by omega)]) (Ev.now left), by omega⟩
    | succ d ih =>
      intro i left hi h0 h1
      have hl : i < xs.length := by omega
      have hw : wrap64 ((i : Int) + 1) = ((i + 1 : Nat) : Int) := by unfold wrap64; omega
      have hx : xs.getD ((i : Int).toNat) z = xs[i] := by simp [List.getD_eq_getElem?_getD, List.getElem?_eq_getElem hl]
      obtain ⟨t, ht, htl⟩ := hg _ (List.getElem_mem hl) left h0 h1
      by_cases hn : t < 0
      · refine ⟨-1, Ev.step (f := fun k => (g k xs[i] left).bind fun t => if t < 0 then some (-1) else L k xs t ((i + 1 : Nat) : Int)) (fun k => ?_) (Ev.bind ht ?_), by omega⟩
        · rw [step, if_pos (by omega), if_pos (by omega), hx, hw]
        · simp only [hn, if_true]
          exact Ev.now _
      · obtain ⟨r, hr, hrl⟩ := ih (i + 1) t (by omega) (by omega) (by omega)
        refine ⟨r, Ev.step (f := fun k => (g k xs[i] left).bind fun t => if t < 0 then some (-1) else L k xs t ((i + 1 : Nat) : Int)) (fun k => ?_) (Ev.bind ht ?_), by omega⟩
        · rw [step, if_pos (by omega), if_pos (by omega), hx, hw]
        · simp only [hn, if_false]
          exact hr
  exact key xs.length 0 left (by omega) h0 h1
end Go.Proofs.Ytblejbgkcgajgaa.Q
end

section
namespace Go.Proofs.Ytblejbgkcgajgaa.Q
open Go.RowKit Go.Proofs.YtblejbgkcgajgaaW.PrintWords Go.Proofs.YtblejbgkcgajgaaW.PrintLast
set_option linter.unusedVariables false
theorem Ev.shift {α : Type} {g h : Nat → Option α} {r : α} {c d : Nat} (e : ∀ k, g (k + c) = h (k + d)) (k : Ev h r) : Ev g r := by
  obtain ⟨K, hK⟩ := k
  refine ⟨K + c, fun n hn => ?_⟩
  obtain ⟨m, rfl⟩ : ∃ m, n = m + c := ⟨n - c, by omega⟩
  rw [e]
  exact hK _ (by omega)
theorem Ev.at_ {α : Type} {g : Nat → Option α} {r : α} {c : Nat} (e : ∀ k, g (k + c) = some r) : Ev g r := by
  refine ⟨c, fun n hn => ?_⟩
  obtain ⟨m, rfl⟩ : ∃ m, n = m + c := ⟨n - c, by omega⟩
  exact e m
theorem Ev.succ {α : Type} {g : Nat → Option α} {r : α} (h : Ev (fun k => g (k + 1)) r) : Ev g r := Ev.step (fun _ => rfl) h
theorem ev_all_loop {L : Nat → Int → Option Bool} {n : Nat} {p : Nat → Bool} {fin : Bool}
    (step : ∀ i : Nat, i < n → (∀ j, j < i → p j = true) → p i = true → ∃ c d, ∀ k, L (k + c) (i : Int) = L (k + d) ((i + 1 : Nat) : Int))
    (stop : ∀ i : Nat, i < n → (∀ j, j < i → p j = true) → p i = false → ∃ c, ∀ k, L (k + c) (i : Int) = some false)
    (done : Ev (fun k => L k (n : Int)) fin) : Ev (fun k => L k 0) (allR p n && fin) := by
  have key : ∀ d (i : Nat), i + d = n → (∀ j, j < i → p j = true) → Ev (fun k => L k (i : Int)) (allR p n && fin) := by
    intro d
    induction d with
    | zero =>
      intro i hi hp
      obtain rfl : i = n := by omega
      rw [allR_true hp, Bool.true_and]
      exact done
    | succ d ih =>
      intro i hi hp
      cases h : p i with
      | true =>
        obtain ⟨c, d', e⟩ := step i (by omega) hp h
        refine Ev.shift e (ih (i + 1) (by omega) (fun j hj => ?_))
        rcases Nat.lt_or_eq_of_le (Nat.le_of_lt_succ hj) with h1 | h1
        · exact hp j h1
        · rw [h1]; exact h
      | false =>
        obtain ⟨c, e⟩ := stop i (by omega) hp h
        rw [allR_false (by omega) h, Bool.false_and]
        exact Ev.at_ e
  exact key n 0 (by omega) (fun j hj => absurd hj (Nat.not_lt_zero _))
theorem ev_same_loop {α : Type} {L : Nat → Int → Option Bool} {xs ys : List α} (hl : xs.length = ys.length)
    (step : ∀ (i : Nat) (h1 : i < xs.length) (h2 : i < ys.length), xs[i] = ys[i] → ∀ k, L (k + 1) (i : Int) = L k ((i + 1 : Nat) : Int))
    (stop : ∀ (i : Nat) (h1 : i < xs.length) (h2 : i < ys.length), xs[i] ≠ ys[i] → ∀ k, L (k + 1) (i : Int) = some false)
    (done : ∀ k, L (k + 1) (xs.length : Int) = some true) : ∃ b, Ev (fun k => L k 0) b ∧ (b = true ↔ xs = ys) := by
  have key : ∀ d (i : Nat), i + d = xs.length → xs.take i = ys.take i → ∃ b, Ev (fun k => L k (i : Int)) b ∧ (b = true ↔ xs = ys) := by
    intro d
    induction d with
    | zero =>
      intro i hi hp
      obtain rfl : i = xs.length := by omega
      refine ⟨true, Ev.at_ (c := 1) done, fun _ => ?_, fun _ => rfl⟩
      rw [List.take_length, hl, List.take_length] at hp
      exact hp
    | succ d ih =>
      intro i hi hp
      have h1 : i < xs.length := by omega
      have h2 : i < ys.length := by omega
      rcases Classical.em (xs[i] = ys[i]) with h | h
      · obtain ⟨b, hb, hb2⟩ := ih (i + 1) (by omega) (by rw [List.take_succ_eq_append_getElem h1, List.take_succ_eq_append_getElem h2, hp, h])
        exact ⟨b, Ev.step (step i h1 h2 h) hb, hb2⟩
      · refine ⟨false, Ev.at_ (c := 1) (stop i h1 h2 h), by simp, fun e => absurd (by subst e; rfl) h⟩
  exact key xs.length 0 (by omega) (by simp)
theorem wrap_i {i : Nat} (h : i < 4611686018427387904) : wrap64 ((i : Int) + 1) = ((i + 1 : Nat) : Int) := by unfold wrap64; omega
theorem wrap_1 {i : Int} (h0 : 0 ≤ i) (h : i < 4611686018427387904) : wrap64 (i - 1) = i - 1 := by unfold wrap64; omega
end Go.Proofs.Ytblejbgkcgajgaa.Q
end

section
namespace Go.Proofs.Ytblejbgkcgajgaa.Q
open Go.RowKit Go.Proofs.YtblejbgkcgajgaaW.PrintWords Go.Proofs.YtblejbgkcgajgaaW.PrintLast
set_option linter.unusedVariables false
set_option linter.unusedSimpArgs false
theorem mapB_len {l : List S55} (h : mapB l = true) : l.length ≤ 12 := by
  unfold mapB at h
  simp only [Bool.and_eq_true, decide_eq_true_eq] at h
  exact h.1
theorem mapB_rise {l : List S55} (h : mapB l = true) : RiseP l := by
  unfold mapB at h
  simp only [Bool.and_eq_true, allR_iff] at h
  have adj : ∀ j (hj : j + 1 < l.length), sblt l[j].f0 l[j + 1].f0 = true := by
    intro j hj
    have h2 := h.2 (j + 1) hj
    unfold entAt at h2
    have e : (((j + 1 : Nat) : Int) - 1) = (j : Int) := by omega
    rw [e, rdEntry (i := j) (by omega), rdEntry hj] at h2
    have z : (j + 1 == 0) = false := rfl
    simp only [z, Bool.false_or, Bool.and_eq_true] at h2
    exact h2.2
  unfold RiseP
  rw [List.pairwise_iff_getElem]
  intro i j hi hj hij
  obtain ⟨d, rfl⟩ : ∃ d, j = i + 1 + d := ⟨j - (i + 1), by omega⟩
  induction d with
  | zero => exact adj i hj
  | succ d ih => exact sblt_trans (ih (by omega) (by omega)) (adj (i + 1 + d) hj)
theorem cmpK_self {k : ByteArray} {x : S55} : cmpK k x = 0 ↔ x.f0 = k := by
  unfold cmpK cmpB
  rw [cmp_eq]
  constructor
  · intro h
    apply toList_inj
    rw [ByteArray.toList_eq, ByteArray.toList_eq, h]
  · intro h; rw [h]
theorem find_some {l : List S55} {k : ByteArray} {i : Nat} (h : RiseP l) (hi : i < l.length) (hk : l[i].f0 = k) : cntN (cmpK k) l = i ∧ fndB (cmpK k) l = true := by
  have hp := List.pairwise_iff_getElem.mp h
  have hc : cntN (cmpK k) l = i := by
    refine cntN_is l i (by omega) (fun t ht h2 => ?_) (fun t ht h2 => ?_)
    · rw [cmpK_lt, ← hk]
      exact hp t i ht hi h2
    · have h3 : ¬ cmpK k l[t] < 0 := by
        rw [cmpK_lt, ← hk]
        rcases Nat.lt_or_eq_of_le h2 with h4 | h4
        · rw [sblt_asymm (hp i t hi ht h4)]
          simp
        · subst h4
          rw [sblt_irrefl]
          simp
      omega
  refine ⟨hc, ?_⟩
  unfold fndB
  rw [hc, List.getElem?_eq_getElem hi]
  simp only [beq_iff_eq]
  exact cmpK_self.mpr hk
theorem find_none {l : List S55} {k : ByteArray} (hn : ∀ i (hi : i < l.length), l[i].f0 ≠ k) : fndB (cmpK k) l = false := by
  unfold fndB
  cases hx : l[cntN (cmpK k) l]? with
  | none => rfl
  | some x =>
    obtain ⟨hi, rfl⟩ := List.getElem?_eq_some_iff.mp hx
    simp only [beq_eq_false_iff_ne, ne_eq]
    rw [cmpK_self]
    exact hn _ hi
theorem find_f {l : List S55} {k : ByteArray} (h : RiseP l) (hl : l.length ≤ 1048576) : impl_find.f l k = some (((cntN (cmpK k) l : Nat) : Int), fndB (cmpK k) l) := by
  unfold impl_find.f bs_find.f
  rw [if_pos h, if_pos (by omega)]
  rfl
end Go.Proofs.Ytblejbgkcgajgaa.Q
end

section
namespace Go.Proofs.Ytblejbgkcgajgaa.Q
open Go.RowKit Go.Proofs.YtblejbgkcgajgaaW.PrintWords Go.Proofs.YtblejbgkcgajgaaW.PrintLast
set_option linter.unusedVariables false
set_option linter.unusedSimpArgs false
def putE (y : S55) : S62 := ⟨y.f0, y.f1, false⟩
def delE (x : S55) : S62 := ⟨x.f0, 0, true⟩
def diffM : List S55 → List S55 → List S62
  | [], ys => ys.map putE
  | x :: xs, [] => delE x :: xs.map delE
  | x :: xs, y :: ys =>
    if sblt x.f0 y.f0 = true then delE x :: diffM xs (y :: ys)
    else if sblt y.f0 x.f0 = true then putE y :: diffM (x :: xs) ys
    else if x.f1 = y.f1 then diffM xs ys else putE y :: diffM xs ys
termination_by xs ys => xs.length + ys.length
theorem diffM_nil (xs : List S55) : diffM xs [] = xs.map delE := by
  cases xs with
  | nil => simp [diffM]
  | cons x xs => simp [diffM]
theorem riseP_cons {x : S55} {xs : List S55} (h : RiseP (x :: xs)) : (∀ y, y ∈ xs → sblt x.f0 y.f0 = true) ∧ RiseP xs := by
  unfold RiseP at h ⊢
  exact List.pairwise_cons.mp h
theorem diffM_key : ∀ (xs ys : List S55) (e : S62), e ∈ diffM xs ys → (∃ x, x ∈ xs ∧ e.f0 = x.f0) ∨ (∃ y, y ∈ ys ∧ e.f0 = y.f0)
  | [], ys, e, h => by
    unfold diffM at h
    obtain ⟨y, hy, rfl⟩ := List.mem_map.mp h
    exact .inr ⟨y, hy, rfl⟩
  | x :: xs, [], e, h => by
    rw [diffM_nil] at h
    obtain ⟨z, hz, rfl⟩ := List.mem_map.mp h
    exact .inl ⟨z, hz, rfl⟩
  | x :: xs, y :: ys, e, h => by
    unfold diffM at h
    split at h
    · rcases List.mem_cons.mp h with rfl | h
      · exact .inl ⟨x, List.mem_cons_self, rfl⟩
      · rcases diffM_key xs (y :: ys) e h with ⟨z, hz, hk⟩ | hk
        · exact .inl ⟨z, List.mem_cons_of_mem _ hz, hk⟩
        · exact .inr hk
    · split at h
      · rcases List.mem_cons.mp h with rfl | h
        · exact .inr ⟨y, List.mem_cons_self, rfl⟩
        · rcases diffM_key (x :: xs) ys e h with hk | ⟨z, hz, hk⟩
          · exact .inl hk
          · exact .inr ⟨z, List.mem_cons_of_mem _ hz, hk⟩
      · have hrec : ∀ e, e ∈ diffM xs ys → (∃ z, z ∈ x :: xs ∧ e.f0 = z.f0) ∨ (∃ z, z ∈ y :: ys ∧ e.f0 = z.f0) := by
          intro e h
          rcases diffM_key xs ys e h with ⟨z, hz, hk⟩ | ⟨z, hz, hk⟩
          · exact .inl ⟨z, List.mem_cons_of_mem _ hz, hk⟩
          · exact .inr ⟨z, List.mem_cons_of_mem _ hz, hk⟩
        split at h
        · exact hrec e h
        · rcases List.mem_cons.mp h with rfl | h
          · exact .inr ⟨y, List.mem_cons_self, rfl⟩
          · exact hrec e h
termination_by xs ys => xs.length + ys.length
theorem diffM_rise : ∀ (xs ys : List S55), RiseP xs → RiseP ys → (diffM xs ys).Pairwise (fun a b => sblt a.f0 b.f0 = true)
  | [], ys, _, h => by
    unfold diffM
    rw [List.pairwise_map]
    exact h
  | x :: xs, [], h, _ => by
    rw [diffM_nil, List.pairwise_map]
    exact h
  | x :: xs, y :: ys, h1, h2 => by
    obtain ⟨hx, hx2⟩ := riseP_cons h1
    obtain ⟨hy, hy2⟩ := riseP_cons h2
    unfold diffM
    split
    · rename_i hlt
      refine List.pairwise_cons.mpr ⟨fun e he => ?_, diffM_rise xs (y :: ys) hx2 h2⟩
      rcases diffM_key xs (y :: ys) e he with ⟨z, hz, hk⟩ | ⟨z, hz, hk⟩
      · rw [hk]; exact hx z hz
      · rw [hk]
        rcases List.mem_cons.mp hz with rfl | hz
        · exact hlt
        · exact sblt_trans hlt (hy z hz)
    · rename_i hnlt
      split
      · rename_i hlt
        refine List.pairwise_cons.mpr ⟨fun e he => ?_, diffM_rise (x :: xs) ys h1 hy2⟩
        rcases diffM_key (x :: xs) ys e he with ⟨z, hz, hk⟩ | ⟨z, hz, hk⟩
        · rw [hk]
          rcases List.mem_cons.mp hz with rfl | hz
          · exact hlt
          · exact sblt_trans hlt (hx z hz)
        · rw [hk]; exact hy z hz
      · rename_i hnlt2
        have he0 : x.f0 = y.f0 := sblt_tri (Bool.not_eq_true _ ▸ hnlt) (Bool.not_eq_true _ ▸ hnlt2)
        split
        · exact diffM_rise xs ys hx2 hy2
        · refine List.pairwise_cons.mpr ⟨fun e he => ?_, diffM_rise xs ys hx2 hy2⟩
          rcases diffM_key xs ys e he with ⟨z, hz, hk⟩ | ⟨z, hz, hk⟩
          · rw [hk]
            show sblt y.f0 z.f0 = true
            rw [← he0]; exact hx z hz
          · rw [hk]; exact hy z hz
termination_by xs ys => xs.length + ys.length
def newE (xs : List S55) (y : S55) : List S62 := if xs.any (fun x => decide (x.f0 = y.f0) && decide (x.f1 = y.f1)) then [] else [putE y]
def oldE (ys : List S55) (x : S55) : List S62 := if ys.any (fun y => decide (y.f0 = x.f0)) then [] else [delE x]
theorem newE_skip {x : S55} {xs : List S55} {y : S55} (h : x.f0 ≠ y.f0) : newE (x :: xs) y = newE xs y := by
  unfold newE
  rw [List.any_cons, decide_eq_false h, Bool.false_and, Bool.false_or]
theorem oldE_skip {y : S55} {ys : List S55} {x : S55} (h : y.f0 ≠ x.f0) : oldE (y :: ys) x = oldE ys x := by
  unfold oldE
  rw [List.any_cons, decide_eq_false h, Bool.false_or]
theorem flatMap_congr_ {α β : Type} {f g : α → List β} : ∀ {l : List α}, (∀ x, x ∈ l → f x = g x) → l.flatMap f = l.flatMap g
  | [], _ => rfl
  | x :: xs, h => by rw [List.flatMap_cons, List.flatMap_cons, h x List.mem_cons_self, flatMap_congr_ (fun y hy => h y (List.mem_cons_of_mem _ hy))]
theorem flatMap_one {α β : Type} {g : α → β} : ∀ (l : List α), l.flatMap (fun x => [g x]) = l.map g
  | [] => rfl
  | x :: xs => by rw [List.flatMap_cons, flatMap_one xs]; rfl
theorem diffM_perm : ∀ (xs ys : List S55), RiseP xs → RiseP ys → (ys.flatMap (newE xs) ++ xs.flatMap (oldE ys)).Perm (diffM xs ys)
  | [], ys, _, _ => by
    have e : ys.flatMap (newE []) = ys.map putE := by
      rw [← flatMap_one]
      exact flatMap_congr_ (fun y _ => by simp [newE])
    rw [List.flatMap_nil, List.append_nil, e]
    unfold diffM
    exact List.Perm.refl _
  | x :: xs, [], _, _ => by
    rw [diffM_nil, List.flatMap_nil, List.nil_append, ← flatMap_one]
    rw [flatMap_congr_ (g := fun x => [delE x]) (fun y _ => by simp [oldE])]
  | x :: xs, y :: ys, h1, h2 => by
    obtain ⟨hx, hx2⟩ := riseP_cons h1
    obtain ⟨hy, hy2⟩ := riseP_cons h2
    unfold diffM
    split
    · rename_i hlt
      have hall : ∀ z, z ∈ y :: ys → x.f0 ≠ z.f0 := by
        intro z hz
        rcases List.mem_cons.mp hz with rfl | hz
        · exact sblt_ne hlt
        · exact sblt_ne (sblt_trans hlt (hy z hz))
      have e1 : (y :: ys).flatMap (newE (x :: xs)) = (y :: ys).flatMap (newE xs) := flatMap_congr_ (fun z hz => newE_skip (hall z hz))
      have e2 : oldE (y :: ys) x = [delE x] := by
        unfold oldE
        rw [if_neg]
        intro h
        obtain ⟨z, hz, hk⟩ := List.any_eq_true.mp h
        exact hall z hz (of_decide_eq_true hk).symm
      rw [e1, List.flatMap_cons (f := oldE (y :: ys)), e2]
      exact (List.perm_middle).trans ((diffM_perm xs (y :: ys) hx2 h2).cons _)
    · rename_i hnlt
      split
      · rename_i hlt
        have hall : ∀ z, z ∈ x :: xs → y.f0 ≠ z.f0 := by
          intro z hz
          rcases List.mem_cons.mp hz with rfl | hz
          · exact sblt_ne hlt
          · exact sblt_ne (sblt_trans hlt (hx z hz))
        have e1 : (x :: xs).flatMap (oldE (y :: ys)) = (x :: xs).flatMap (oldE ys) := flatMap_congr_ (fun z hz => oldE_skip (hall z hz))
        have e2 : newE (x :: xs) y = [putE y] := by
          unfold newE
          rw [if_neg]
          intro h
          obtain ⟨z, hz, hk⟩ := List.any_eq_true.mp h
          rw [Bool.and_eq_true, decide_eq_true_eq] at hk
          exact hall z hz hk.1.symm
        rw [e1, List.flatMap_cons (f := newE (x :: xs)), e2]
        exact (diffM_perm (x :: xs) ys h1 hy2).cons _
      · rename_i hnlt2
        have he0 : x.f0 = y.f0 := sblt_tri (Bool.not_eq_true _ ▸ hnlt) (Bool.not_eq_true _ ▸ hnlt2)
        have e1 : ys.flatMap (newE (x :: xs)) = ys.flatMap (newE xs) := flatMap_congr_ (fun z hz => newE_skip (by rw [he0]; exact sblt_ne (hy z hz)))
        have e2 : xs.flatMap (oldE (y :: ys)) = xs.flatMap (oldE ys) := flatMap_congr_ (fun z hz => oldE_skip (by rw [← he0]; exact sblt_ne (hx z hz)))
        have e3 : oldE (y :: ys) x = [] := by
          unfold oldE
          rw [List.any_cons, decide_eq_true he0.symm, Bool.true_or, if_pos rfl]
        have hr := diffM_perm xs ys hx2 hy2
        rw [List.flatMap_cons, List.flatMap_cons, e1, e2, e3, List.nil_append]
        split
        · rename_i hv
          have e4 : newE (x :: xs) y = [] := by
            unfold newE
            rw [List.any_cons, decide_eq_true he0, decide_eq_true hv, Bool.and_self, Bool.true_or, if_pos rfl]
          rw [e4, List.nil_append]
          exact hr
        · rename_i hv
          have e4 : newE (x :: xs) y = [putE y] := by
            unfold newE
            rw [if_neg]
            intro h
            obtain ⟨z, hz, hk⟩ := List.any_eq_true.mp h
            rw [Bool.and_eq_true, decide_eq_true_eq, decide_eq_true_eq] at hk
            rcases List.mem_cons.mp hz with rfl | hz
            · exact hv hk.2
            · exact sblt_ne (hx z hz) (he0.trans hk.1.symm)
          rw [e4]
          exact hr.cons _
termination_by xs ys => xs.length + ys.length
theorem sort_unique {l m : List S62} (hp : l.Perm m) (hm : m.Pairwise (fun a b => sblt a.f0 b.f0 = true)) : sortE l = m := by
  obtain ⟨h1, h2⟩ := sortE_is l
  have h3 : (sortE l).Perm m := h1.trans hp
  refine List.Perm.eq_of_pairwise (le := fun a b => sblt b.f0 a.f0 = false) ?_ h2 ?_ h3
  · intro a b ha hb k1 k2
    have ha' : a ∈ m := h3.mem_iff.mp ha
    have hk : a.f0 = b.f0 := sblt_tri k2 k1
    rcases List.pairwise_iff_getElem.mp hm with hg
    obtain ⟨i, hi, rfl⟩ := List.mem_iff_getElem.mp ha'
    obtain ⟨j, hj, rfl⟩ := List.mem_iff_getElem.mp hb
    rcases Nat.lt_trichotomy i j with h | h | h
    · exact absurd hk (sblt_ne (hg i j hi hj h))
    · subst h; rfl
    · exact absurd hk.symm (sblt_ne (hg j i hj hi h))
  · exact hm.imp (fun h => sblt_asymm h)
theorem diffM_len : ∀ (xs ys : List S55), (diffM xs ys).length ≤ xs.length + ys.length
  | [], ys => by unfold diffM; rw [List.length_map]; omega
  | x :: xs, [] => by rw [diffM_nil, List.length_map]; omega
  | x :: xs, y :: ys => by
    have h1 := diffM_len xs (y :: ys)
    have h2 := diffM_len (x :: xs) ys
    have h3 := diffM_len xs ys
    simp only [List.length_cons] at *
    unfold diffM
    split
    · simp only [List.length_cons]; omega
    · split
      · simp only [List.length_cons]; omega
      · split
        · omega
        · simp only [List.length_cons]; omega
termination_by xs ys => xs.length + ys.length
theorem sblt_is (a b : ByteArray) : Op.bytesLess a.toList b.toList = sblt a b := rfl
theorem l01Diff_end (a b : List S55) (acc : List S62) : Ev (fun q => spec_l01Diff.l0 q a b acc (a.length : Int) (b.length : Int)) (acc ++ diffM (a.drop a.length) (b.drop b.length)) := by
  refine Ev.at_ (c := 2) (fun q => ?_)
  have c1 : ¬ ((a.length : Int) < (a.length : Int)) := by omega
  have c2 : ¬ ((b.length : Int) < (b.length : Int)) := by omega
  simp only [spec_l01Diff.l0, spec_l01Diff.j1, if_neg c1, decide_eq_false c2, Bool.false_eq_true, if_false, List.drop_length]
  unfold diffM
  simp
theorem l01Diff_loop (a b : List S55) (ha : a.length ≤ 1048576) (hb : b.length ≤ 1048576) : ∀ (d i j : Nat) (acc : List S62), i ≤ a.length → j ≤ b.length → (a.length - i) + (b.length - j) ≤ d → acc.length + d ≤ 100000000 →
    Ev (fun q => spec_l01Diff.l0 q a b acc (i : Int) (j : Int)) (acc ++ diffM (a.drop i) (b.drop j)) := by
  intro d
  induction d with
  | zero =>
    intro i j acc hi hj hd _
    obtain rfl : i = a.length := by omega
    obtain rfl : j = b.length := by omega
    exact l01Diff_end a b acc
  | succ d ih =>
    intro i j acc hi hj hd hacc
    have hlen : acc.length < 4398046511104 := by omega
    have i0 : (0 : Int) ≤ (i : Int) := Int.natCast_nonneg _
    have j0 : (0 : Int) ≤ (j : Int) := Int.natCast_nonneg _
    have wi := wrap_i (show i < 4611686018427387904 by omega)
    have wj := wrap_i (show j < 4611686018427387904 by omega)
    have hap : ∀ (acc : List S62) (e : S62) (l : List S62), acc ++ e :: l = (acc ++ [e]) ++ l := fun acc e l => by simp
    by_cases hil : i < a.length
    · have ci : (i : Int) < (a.length : Int) := by omega
      have ri : rd_T55 a (i : Int) = a[i] := rdEntry hil
      have da : a.drop i = a[i] :: a.drop (i + 1) := List.drop_eq_getElem_cons hil
      by_cases hjl : j < b.length
      · have cj : (j : Int) < (b.length : Int) := by omega
        have cj2 : ¬ ((j : Int) = (b.length : Int)) := by omega
        have rj : rd_T55 b (j : Int) = b[j] := rdEntry hjl
        have db : b.drop j = b[j] :: b.drop (j + 1) := List.drop_eq_getElem_cons hjl
        have ci2 : ¬ ((i : Int) = (a.length : Int)) := by omega
        rw [da, db]
        unfold diffM
        by_cases h1 : sblt a[i].f0 b[j].f0 = true
        · rw [if_pos h1, hap, ← db]
          refine Ev.shift (c := 3) (d := 0) (fun q => ?_) (ih (i + 1) j (acc ++ [delE a[i]]) (by omega) hj (by omega) (by rw [List.length_append]; simp only [List.length_cons, List.length_nil]; omega))
          simp only [spec_l01Diff.l0, spec_l01Diff.j1, spec_l01Diff.j2, if_pos ci, if_true, if_neg cj2, if_pos i0, if_pos j0, if_pos cj, ri, rj, sblt_is, h1, if_pos hlen, wi, Nat.add_zero, delE]
        · rw [if_neg h1]
          have h1f : sblt a[i].f0 b[j].f0 = false := Bool.not_eq_true _ ▸ h1
          by_cases h2 : sblt b[j].f0 a[i].f0 = true
          · rw [if_pos h2, hap, ← da]
            refine Ev.shift (c := 4) (d := 0) (fun q => ?_) (ih i (j + 1) (acc ++ [putE b[j]]) hi (by omega) (by omega) (by rw [List.length_append]; simp only [List.length_cons, List.length_nil]; omega))
            simp only [spec_l01Diff.l0, spec_l01Diff.j1, spec_l01Diff.j2, spec_l01Diff.j3, if_pos ci, if_true, if_neg cj2, if_pos i0, if_pos j0, if_pos cj, ri, rj, sblt_is, h1f, Bool.false_eq_true, if_false, if_neg ci2, h2, if_pos hlen, wj, Nat.add_zero, putE]
          · rw [if_neg h2]
            have h2f : sblt b[j].f0 a[i].f0 = false := Bool.not_eq_true _ ▸ h2
            by_cases h3 : a[i].f1 = b[j].f1
            · rw [if_pos h3]
              refine Ev.shift (c := 4) (d := 0) (fun q => ?_) (ih (i + 1) (j + 1) acc (by omega) (by omega) (by omega) (by omega))
              simp only [spec_l01Diff.l0, spec_l01Diff.j1, spec_l01Diff.j2, spec_l01Diff.j3, if_pos ci, if_true, if_neg cj2, if_pos i0, if_pos j0, if_pos cj, ri, rj, sblt_is, h1f, Bool.false_eq_true, if_false, if_neg ci2, h2f, if_pos h3, wi, wj, Nat.add_zero]
            · rw [if_neg h3, hap]
              refine Ev.shift (c := 4) (d := 0) (fun q => ?_) (ih (i + 1) (j + 1) (acc ++ [putE b[j]]) (by omega) (by omega) (by omega) (by rw [List.length_append]; simp only [List.length_cons, List.length_nil]; omega))
              simp only [spec_l01Diff.l0, spec_l01Diff.j1, spec_l01Diff.j2, spec_l01Diff.j3, if_pos ci, if_true, if_neg cj2, if_pos i0, if_pos j0, if_pos cj, ri, rj, sblt_is, h1f, Bool.false_eq_true, if_false, if_neg ci2, h2f, if_neg h3, if_pos hlen, wi, wj, Nat.add_zero, putE]
      · obtain rfl : j = b.length := by omega
        have hr := ih (i + 1) b.length (acc ++ [delE a[i]]) (by omega) hj (by omega) (by rw [List.length_append]; simp only [List.length_cons, List.length_nil]; omega)
        rw [List.drop_length, diffM_nil] at hr ⊢
        rw [da, List.map_cons, hap]
        refine Ev.shift (c := 3) (d := 0) (fun q => ?_) hr
        simp only [spec_l01Diff.l0, spec_l01Diff.j1, spec_l01Diff.j2, if_pos ci, if_true, if_pos i0, ri, if_pos hlen, wi, Nat.add_zero, delE]
    · obtain rfl : i = a.length := by omega
      by_cases hjl : j < b.length
      case neg =>
        obtain rfl : j = b.length := by omega
        exact l01Diff_end a b acc
      have ci : ¬ ((a.length : Int) < (a.length : Int)) := by omega
      have cj : (j : Int) < (b.length : Int) := by omega
      have cj2 : ¬ ((j : Int) = (b.length : Int)) := by omega
      have rj : rd_T55 b (j : Int) = b[j] := rdEntry hjl
      have db : b.drop j = b[j] :: b.drop (j + 1) := List.drop_eq_getElem_cons hjl
      have hr := ih a.length (j + 1) (acc ++ [putE b[j]]) hi (by omega) (by omega) (by rw [List.length_append]; simp only [List.length_cons, List.length_nil]; omega)
      have e0 : ∀ l : List S55, diffM [] l = l.map putE := fun l => by unfold diffM; rfl
      rw [List.drop_length, e0] at hr ⊢
      rw [db, List.map_cons, hap]
      refine Ev.shift (c := 4) (d := 0) (fun q => ?_) hr
      simp only [spec_l01Diff.l0, spec_l01Diff.j1, spec_l01Diff.j2, spec_l01Diff.j3, if_neg ci, decide_eq_true cj, if_true, if_neg cj2, Bool.false_eq_true, if_false, if_pos j0, if_pos cj, rj, if_pos hlen, wj, Nat.add_zero, putE]
theorem l01Diff_ev (a b : List S55) (ha : a.length ≤ 1048576) (hb : b.length ≤ 1048576) : Ev (fun q => spec_l01Diff.f q a b) (diffM a b) := by
  have h := l01Diff_loop a b ha hb (a.length + b.length) 0 0 [] (Nat.zero_le _) (Nat.zero_le _) (by omega) (by simp only [List.length_nil]; omega)
  rw [List.drop_zero, List.drop_zero, List.nil_append] at h
  exact h
theorem newE_found {a : List S55} {y : S55} {t : Nat} (h : RiseP a) (ht : t < a.length) (hk : a[t].f0 = y.f0) : newE a y = if a[t].f1 = y.f1 then [] else [putE y] := by
  unfold newE
  by_cases hv : a[t].f1 = y.f1
  · rw [if_pos hv, if_pos]
    exact List.any_eq_true.mpr ⟨a[t], List.getElem_mem ht, by rw [decide_eq_true hk, decide_eq_true hv]; rfl⟩
  · rw [if_neg hv, if_neg]
    intro hh
    obtain ⟨z, hz, hq⟩ := List.any_eq_true.mp hh
    rw [Bool.and_eq_true, decide_eq_true_eq, decide_eq_true_eq] at hq
    obtain ⟨s, hs, rfl⟩ := List.mem_iff_getElem.mp hz
    have e1 := (find_some h hs hq.1).1
    have e2 := (find_some h ht hk).1
    obtain rfl : s = t := by rw [← e1, e2]
    exact hv hq.2
theorem newE_none {a : List S55} {y : S55} (h : ∀ i (hi : i < a.length), a[i].f0 ≠ y.f0) : newE a y = [putE y] := by
  unfold newE
  rw [if_neg]
  intro hh
  obtain ⟨z, hz, hq⟩ := List.any_eq_true.mp hh
  rw [Bool.and_eq_true, decide_eq_true_eq] at hq
  obtain ⟨s, hs, rfl⟩ := List.mem_iff_getElem.mp hz
  exact h s hs hq.1
theorem oldE_found {b : List S55} {x : S55} {t : Nat} (ht : t < b.length) (hk : b[t].f0 = x.f0) : oldE b x = [] := by
  unfold oldE
  rw [if_pos]
  exact List.any_eq_true.mpr ⟨b[t], List.getElem_mem ht, decide_eq_true hk⟩
theorem oldE_none {b : List S55} {x : S55} (h : ∀ i (hi : i < b.length), b[i].f0 ≠ x.f0) : oldE b x = [delE x] := by
  unfold oldE
  rw [if_neg]
  intro hh
  obtain ⟨z, hz, hq⟩ := List.any_eq_true.mp hh
  obtain ⟨s, hs, rfl⟩ := List.mem_iff_getElem.mp hz
  exact h s hs (of_decide_eq_true hq)
theorem diff_l1 (a b : List S55) (hra : RiseP a) (hrb : RiseP b) (ha : a.length ≤ 1048576) (hb : b.length ≤ 1048576) : ∀ (d i : Nat) (acc : List S62), i + d = a.length → acc.length + d ≤ 100000000 →
    Ev (fun q => impl_diff.l1 q b acc a (a.length : Int) (i : Int)) (sortE (acc ++ (a.drop i).flatMap (oldE b))) := by
  intro d
  induction d with
  | zero =>
    intro i acc hi hacc
    obtain rfl : i = a.length := by omega
    have c1 : ¬ ((a.length : Int) < (a.length : Int)) := by omega
    have hlen : acc.length < 4611686018427387904 := by omega
    refine Ev.at_ (c := 1) (fun q => ?_)
    rw [List.drop_length, List.flatMap_nil, List.append_nil]
    simp only [impl_diff.l1, if_neg c1, sort_Edit.f, if_pos hlen, Option.bind_some]
  | succ d ih =>
    intro i acc hi hacc
    have hil : i < a.length := by omega
    have c1 : (i : Int) < (a.length : Int) := by omega
    have i0 : (0 : Int) ≤ (i : Int) := Int.natCast_nonneg _
    have ri : rd_T55 a (i : Int) = a[i] := rdEntry hil
    have hlen : acc.length < 4398046511104 := by omega
    have w := wrap_i (show i < 4611686018427387904 by omega)
    rw [List.drop_eq_getElem_cons hil, List.flatMap_cons]
    by_cases hx : ∃ t, ∃ ht : t < b.length, b[t].f0 = a[i].f0
    · obtain ⟨t, ht, hk⟩ := hx
      obtain ⟨e1, e2⟩ := find_some hrb ht hk
      have hf : impl_find.f b a[i].f0 = some ((t : Int), true) := by rw [find_f hrb hb, e1, e2]
      rw [oldE_found ht hk, List.nil_append]
      refine Ev.shift (c := 1) (d := 0) (fun q => ?_) (ih (i + 1) acc (by omega) (by omega))
      simp only [impl_diff.l1, if_pos c1, if_pos i0, ri, hf, Option.bind_some, if_true, w, Nat.add_zero]
    · have hn : ∀ t (ht : t < b.length), b[t].f0 ≠ a[i].f0 := fun t ht hk => hx ⟨t, ht, hk⟩
      have hf : impl_find.f b a[i].f0 = some (((cntN (cmpK a[i].f0) b : Nat) : Int), false) := by rw [find_f hrb hb, find_none hn]
      rw [oldE_none hn, ← List.append_assoc]
      refine Ev.shift (c := 1) (d := 0) (fun q => ?_) (ih (i + 1) (acc ++ [delE a[i]]) (by omega) (by rw [List.length_append]; simp only [List.length_cons, List.length_nil]; omega))
      simp only [impl_diff.l1, if_pos c1, if_pos i0, ri, hf, Option.bind_some, Bool.false_eq_true, if_false, if_pos hlen, w, Nat.add_zero, delE]
theorem diff_l0 (a b : List S55) (hra : RiseP a) (hrb : RiseP b) (ha : a.length ≤ 1048576) (hb : b.length ≤ 1048576) : ∀ (d i : Nat) (acc : List S62), i + d = b.length → acc.length + d ≤ 90000000 →
    Ev (fun q => impl_diff.l0 q a b acc b (b.length : Int) (i : Int)) (sortE (acc ++ ((b.drop i).flatMap (newE a) ++ a.flatMap (oldE b)))) := by
  intro d
  induction d with
  | zero =>
    intro i acc hi hacc
    obtain rfl : i = b.length := by omega
    have c1 : ¬ ((b.length : Int) < (b.length : Int)) := by omega
    have h := diff_l1 a b hra hrb ha hb a.length 0 acc (by omega) (by omega)
    rw [List.drop_zero] at h
    rw [List.drop_length, List.flatMap_nil, List.nil_append]
    refine Ev.shift (c := 1) (d := 0) (fun q => ?_) h
    simp only [impl_diff.l0, if_neg c1, Nat.add_zero]
    rfl
  | succ d ih =>
    intro i acc hi hacc
    have hil : i < b.length := by omega
    have c1 : (i : Int) < (b.length : Int) := by omega
    have i0 : (0 : Int) ≤ (i : Int) := Int.natCast_nonneg _
    have ri : rd_T55 b (i : Int) = b[i] := rdEntry hil
    have hlen : acc.length < 4398046511104 := by omega
    have w := wrap_i (show i < 4611686018427387904 by omega)
    have hadd : ∀ (e : S62) (l : List S62), acc ++ ([e] ++ l ++ a.flatMap (oldE b)) = (acc ++ [e]) ++ (l ++ a.flatMap (oldE b)) := fun e l => by simp
    rw [List.drop_eq_getElem_cons hil, List.flatMap_cons]
    by_cases hx : ∃ t, ∃ ht : t < a.length, a[t].f0 = b[i].f0
    · obtain ⟨t, ht, hk⟩ := hx
      obtain ⟨e1, e2⟩ := find_some hra ht hk
      have hf : impl_find.f a b[i].f0 = some ((t : Int), true) := by rw [find_f hra ha, e1, e2]
      have t0 : (0 : Int) ≤ (t : Int) := Int.natCast_nonneg _
      have t1 : (t : Int) < (a.length : Int) := by omega
      have rt : rd_T55 a (t : Int) = a[t] := rdEntry ht
      rw [newE_found hra ht hk]
      by_cases hv : a[t].f1 = b[i].f1
      · rw [if_pos hv, List.nil_append]
        refine Ev.shift (c := 1) (d := 0) (fun q => ?_) (ih (i + 1) acc (by omega) (by omega))
        simp only [impl_diff.l0, if_pos c1, if_pos i0, ri, hf, Option.bind_some, if_true, if_pos t0, if_pos t1, rt, if_pos hv, w, Nat.add_zero]
      · rw [if_neg hv, hadd]
        refine Ev.shift (c := 1) (d := 0) (fun q => ?_) (ih (i + 1) (acc ++ [putE b[i]]) (by omega) (by rw [List.length_append]; simp only [List.length_cons, List.length_nil]; omega))
        simp only [impl_diff.l0, if_pos c1, if_pos i0, ri, hf, Option.bind_some, if_true, if_pos t0, if_pos t1, rt, if_neg hv, if_pos hlen, w, Nat.add_zero, putE]
    · have hn : ∀ t (ht : t < a.length), a[t].f0 ≠ b[i].f0 := fun t ht hk => hx ⟨t, ht, hk⟩
      have hf : impl_find.f a b[i].f0 = some (((cntN (cmpK b[i].f0) a : Nat) : Int), false) := by rw [find_f hra ha, find_none hn]
      rw [newE_none hn, hadd]
      refine Ev.shift (c := 1) (d := 0) (fun q => ?_) (ih (i + 1) (acc ++ [putE b[i]]) (by omega) (by rw [List.length_append]; simp only [List.length_cons, List.length_nil]; omega))
      simp only [impl_diff.l0, if_pos c1, if_pos i0, ri, hf, Option.bind_some, Bool.false_eq_true, if_false, if_pos hlen, w, Nat.add_zero, putE]
theorem diff_ev (a b : List S55) (hra : RiseP a) (hrb : RiseP b) (ha : a.length ≤ 1048576) (hb : b.length ≤ 1048576) : Ev (fun q => impl_diff.f q a b) (diffM a b) := by
  have h := diff_l0 a b hra hrb ha hb b.length 0 [] (by omega) (by simp only [List.length_nil]; omega)
  rw [List.drop_zero, List.nil_append, sort_unique (diffM_perm a b hra hrb) (diffM_rise a b hra hrb)] at h
  exact h
end Go.Proofs.Ytblejbgkcgajgaa.Q
end

section
namespace Go.Proofs.Ytblejbgkcgajgaa.Q
open Go.RowKit Go.Proofs.YtblejbgkcgajgaaW.PrintWords Go.Proofs.YtblejbgkcgajgaaW.PrintLast
set_option linter.unusedVariables false
set_option linter.unusedSimpArgs false
theorem cntN_le (c : S55 → Int) (l : List S55) : cntN c l ≤ l.length := List.countP_le_length
theorem cnt_at {l : List S55} (h : RiseP l) (k : ByteArray) : ∀ t (ht : t < l.length), (t < cntN (cmpK k) l ↔ sblt l[t].f0 k = true) := by
  have hp := List.pairwise_iff_getElem.mp h
  -- the first place that is not less
  have key : ∀ d i, i + d = l.length → (∀ t (ht : t < l.length), t < i → sblt l[t].f0 k = true) → ∃ c, c ≤ l.length ∧ (∀ t (ht : t < l.length), t < c → sblt l[t].f0 k = true) ∧ (∀ t (ht : t < l.length), c ≤ t → sblt l[t].f0 k = false) := by
    intro d
    induction d with
    | zero => intro i hi hlo; exact ⟨i, by omega, hlo, fun t ht h2 => by omega⟩
    | succ d ih =>
      intro i hi hlo
      have hl : i < l.length := by omega
      cases hb : sblt l[i].f0 k with
      | true =>
        refine ih (i + 1) (by omega) (fun t ht h2 => ?_)
        rcases Nat.lt_or_eq_of_le (Nat.le_of_lt_succ h2) with h3 | h3
        · exact hlo t ht h3
        · subst h3; exact hb
      | false =>
        refine ⟨i, by omega, hlo, fun t ht h2 => ?_⟩
        rcases Nat.lt_or_eq_of_le h2 with h3 | h3
        · cases hb2 : sblt l[t].f0 k with
          | false => rfl
          | true =>
            have := sblt_trans (hp i t hl ht h3) hb2
            rw [hb] at this
            cases this
        · subst h3; exact hb
  obtain ⟨c, hc, h1, h2⟩ := key l.length 0 (by omega) (fun t ht h2 => absurd h2 (Nat.not_lt_zero _))
  have e : cntN (cmpK k) l = c := by
    refine cntN_is l c hc (fun t ht h3 => (cmpK_lt _ _).mpr (h1 t ht h3)) (fun t ht h3 => ?_)
    have h4 : ¬ cmpK k l[t] < 0 := by
      rw [cmpK_lt, h2 t ht h3]
      simp
    omega
  intro t ht
  rw [e]
  constructor
  · exact h1 t ht
  · intro h3
    rcases Nat.lt_or_ge t c with h4 | h4
    · exact h4
    · rw [h2 t ht h4] at h3
      cases h3
theorem fnd_at {l : List S55} (h : RiseP l) (k : ByteArray) : fndB (cmpK k) l = true ↔ ∃ hc : cntN (cmpK k) l < l.length, (l[cntN (cmpK k) l]'hc).f0 = k := by
  unfold fndB
  constructor
  · intro h1
    cases hx : l[cntN (cmpK k) l]? with
    | none => rw [hx] at h1; cases h1
    | some x =>
      rw [hx] at h1
      obtain ⟨hi, rfl⟩ := List.getElem?_eq_some_iff.mp hx
      exact ⟨hi, cmpK_self.mp (by simpa using h1)⟩
  · rintro ⟨hc, e⟩
    rw [List.getElem?_eq_getElem hc]
    simp only [beq_iff_eq]
    exact cmpK_self.mpr e
def behK (k : ByteArray) (l : List S55) : Nat := cntN (cmpK k) l + if fndB (cmpK k) l = true then 1 else 0
theorem behK_le {l : List S55} (h : RiseP l) (k : ByteArray) : behK k l ≤ l.length := by
  unfold behK
  by_cases hf : fndB (cmpK k) l = true
  · obtain ⟨hc, _⟩ := (fnd_at h k).mp hf
    rw [if_pos hf]
    omega
  · rw [if_neg hf]
    have := cntN_le (cmpK k) l
    omega
theorem beh_at {l : List S55} (h : RiseP l) (k : ByteArray) : ∀ t (ht : t < l.length), behK k l ≤ t → sblt k l[t].f0 = true := by
  intro t ht hb
  have hp := List.pairwise_iff_getElem.mp h
  unfold behK at hb
  by_cases hf : fndB (cmpK k) l = true
  · obtain ⟨hc, e⟩ := (fnd_at h k).mp hf
    rw [if_pos hf] at hb
    rw [← e]
    exact hp _ t hc ht (by omega)
  · rw [if_neg hf] at hb
    have h1 : sblt l[t].f0 k = false := by
      cases h2 : sblt l[t].f0 k with
      | false => rfl
      | true => have := (cnt_at h k t ht).mpr h2; omega
    cases h3 : sblt k l[t].f0 with
    | true => rfl
    | false =>
      exfalso
      have e := sblt_tri h1 h3
      apply hf
      rw [fnd_at h k]
      have hc : cntN (cmpK k) l = t := by
        rcases Nat.lt_or_ge (cntN (cmpK k) l) t with h4 | h4
        · have h5 := hp _ t (by omega) ht h4
          rw [e] at h5
          have := (cnt_at h k _ (by omega)).mpr h5
          omega
        · omega
      exact ⟨by omega, by simp only [hc]; exact e⟩
def putL (l : List S55) (k : ByteArray) (v : Int) : List S55 := l.take (cntN (cmpK k) l) ++ ⟨k, v⟩ :: l.drop (behK k l)
def remL (l : List S55) (k : ByteArray) : List S55 := l.take (cntN (cmpK k) l) ++ l.drop (behK k l)
theorem remL_rise {l : List S55} (h : RiseP l) (k : ByteArray) : RiseP (remL l k) := by
  unfold remL RiseP
  rw [List.pairwise_append]
  refine ⟨h.sublist (List.take_sublist _ _), h.sublist (List.drop_sublist _ _), fun a ha b hb => ?_⟩
  obtain ⟨i, hi, rfl⟩ := List.mem_take_iff_getElem.mp ha
  obtain ⟨j, hj, rfl⟩ := List.mem_drop_iff_getElem.mp hb
  have h1 := (cnt_at h k i (by omega)).mp (by omega)
  have h2 := beh_at h k (behK k l + j) (by omega) (by omega)
  exact sblt_trans h1 h2
theorem putL_rise {l : List S55} (h : RiseP l) (k : ByteArray) (v : Int) : RiseP (putL l k v) := by
  unfold putL RiseP
  rw [List.pairwise_append, List.pairwise_cons]
  refine ⟨h.sublist (List.take_sublist _ _), ⟨fun b hb => ?_, h.sublist (List.drop_sublist _ _)⟩, fun a ha b hb => ?_⟩
  · obtain ⟨j, hj, rfl⟩ := List.mem_drop_iff_getElem.mp hb
    exact beh_at h k (behK k l + j) (by omega) (by omega)
  · obtain ⟨i, hi, rfl⟩ := List.mem_take_iff_getElem.mp ha
    have h1 := (cnt_at h k i (by omega)).mp (by omega)
    rcases List.mem_cons.mp hb with rfl | hb
    · exact h1
    · obtain ⟨j, hj, rfl⟩ := List.mem_drop_iff_getElem.mp hb
      exact sblt_trans h1 (beh_at h k (behK k l + j) (by omega) (by omega))
theorem putL_len (l : List S55) (k : ByteArray) (v : Int) : (putL l k v).length ≤ l.length + 1 := by
  unfold putL
  have h1 := cntN_le (cmpK k) l
  have h2 : cntN (cmpK k) l ≤ behK k l := by unfold behK; omega
  rw [List.length_append, List.length_take, List.length_cons, List.length_drop]
  omega
theorem remL_len (l : List S55) (k : ByteArray) : (remL l k).length ≤ l.length := by
  unfold remL
  have h1 := cntN_le (cmpK k) l
  have h2 : cntN (cmpK k) l ≤ behK k l := by unfold behK; omega
  rw [List.length_append, List.length_take, List.length_drop]
  omega
end Go.Proofs.Ytblejbgkcgajgaa.Q
end

section
namespace Go.Proofs.Ytblejbgkcgajgaa.Q
open Go.RowKit Go.Proofs.YtblejbgkcgajgaaW.PrintWords Go.Proofs.YtblejbgkcgajgaaW.PrintLast
set_option linter.unusedVariables false
set_option linter.unusedSimpArgs false
theorem behK_found {l : List S55} {k : ByteArray} (h : fndB (cmpK k) l = true) : behK k l = cntN (cmpK k) l + 1 := by
  unfold behK
  rw [if_pos h]
theorem behK_new {l : List S55} {k : ByteArray} (h : fndB (cmpK k) l = false) : behK k l = cntN (cmpK k) l := by
  unfold behK
  rw [h, if_neg (by simp)]
  omega
def edit1 (l : List S55) (e : S62) : List S55 := if e.f2 = true then remL l e.f0 else putL l e.f0 e.f1
theorem edit1_rise {l : List S55} (h : RiseP l) (e : S62) : RiseP (edit1 l e) := by
  unfold edit1
  split
  · exact remL_rise h _
  · exact putL_rise h _ _
theorem edit1_len (l : List S55) (e : S62) : (edit1 l e).length ≤ l.length + 1 := by
  unfold edit1
  split
  · have := remL_len l e.f0
    omega
  · exact putL_len l _ _
theorem edits_rise : ∀ (ed : List S62) {l : List S55}, RiseP l → RiseP (ed.foldl edit1 l)
  | [], _, h => h
  | e :: r, _, h => edits_rise r (edit1_rise h e)
theorem edits_len : ∀ (ed : List S62) (l : List S55), (ed.foldl edit1 l).length ≤ l.length + ed.length
  | [], l => by simp
  | e :: r, l => by
    have h1 := edits_len r (edit1 l e)
    have h2 := edit1_len l e
    rw [List.foldl_cons, List.length_cons]
    omega
theorem clone_e {l : List S55} (h : l.length ≤ 2000000) : impl_Entry_67.f l = some l := by
  unfold impl_Entry_67.f
  simp only [Option.bind_some, List.length_nil, Nat.zero_add, List.nil_append, (show l.length < 5864062014805 by omega), if_true]
theorem delete_at {l : List S55} {c : Nat} (h : c < l.length) (hl : l.length ≤ 2000000) : impl_Entry_68.f l (c : Int) (wrap64 ((c : Int) + 1)) = some (l.take c ++ l.drop (c + 1)) := by
  have hw : wrap64 ((c : Int) + 1) = (c : Int) + 1 := by unfold wrap64; omega
  unfold impl_Entry_68.f
  rw [hw, if_pos (by omega), if_pos rfl, if_pos (by omega), Int.toNat_natCast]
theorem insert_at {l : List S55} {c : Nat} (x : S55) (h : c ≤ l.length) (hl : l.length ≤ 2000000) : impl_Entry_69.f l (c : Int) [x] = some (l.take c ++ x :: l.drop c) := by
  unfold impl_Entry_69.f
  simp only [Int.natCast_nonneg, if_true, (show ((c : Int) ≤ (l.length : Int)) by omega), (show l.length < 5000000 by omega), Int.toNat_natCast, List.append_assoc, List.cons_append, List.nil_append]
theorem edited_loop (ed : List S62) (hed : ed.length ≤ 1000000) : ∀ (d i : Nat) (l : List S55), i + d = ed.length → RiseP l → l.length + d ≤ 1000000 → Ev (fun k => impl_edited.l0 k l ed (ed.length : Int) (i : Int)) ((ed.drop i).foldl edit1 l) := by
  intro d
  induction d with
  | zero =>
    intro i l hi hr hl
    rw [List.drop_of_length_le (by omega)]
    refine Ev.at_ (c := 1) (fun k => ?_)
    simp only [impl_edited.l0]
    rw [if_neg (by omega)]
    rfl
  | succ d ih =>
    intro i l hi hr hl
    have hil : i < ed.length := by omega
    have c1 : (i : Int) < (ed.length : Int) := by omega
    have e1 : rd_T62 ed (i : Int) = ed[i] := by simp [rd_T62, List.getD_eq_getElem?_getD, List.getElem?_eq_getElem hil]
    have hn := ih (i + 1) (edit1 l ed[i]) (by omega) (edit1_rise hr _) (by have := edit1_len l ed[i]; omega)
    rw [List.drop_eq_getElem_cons hil, List.foldl_cons]
    have hcl := cntN_le (cmpK ed[i].f0) l
    refine Ev.succ ?_
    simp only [impl_edited.l0, c1, Int.natCast_nonneg, if_true, e1, find_f hr (show l.length ≤ 1048576 by omega), Option.bind_some, wrap_i (show i < 4611686018427387904 by omega)]
    cases hf : fndB (cmpK ed[i].f0) l with
    | true =>
      obtain ⟨hc, _⟩ := (fnd_at hr ed[i].f0).mp hf
      have hdl : (l.take (cntN (cmpK ed[i].f0) l) ++ l.drop (cntN (cmpK ed[i].f0) l + 1)).length ≤ 2000000 := by
        rw [List.length_append, List.length_take, List.length_drop]; omega
      have hdc : cntN (cmpK ed[i].f0) l ≤ (l.take (cntN (cmpK ed[i].f0) l) ++ l.drop (cntN (cmpK ed[i].f0) l + 1)).length := by
        rw [List.length_append, List.length_take, List.length_drop]; omega
      have ht : (l.take (cntN (cmpK ed[i].f0) l) ++ l.drop (cntN (cmpK ed[i].f0) l + 1)).take (cntN (cmpK ed[i].f0) l) = l.take (cntN (cmpK ed[i].f0) l) := by
        rw [List.take_append_of_le_length (by rw [List.length_take]; omega), List.take_take, Nat.min_self]
      have hdd : (l.take (cntN (cmpK ed[i].f0) l) ++ l.drop (cntN (cmpK ed[i].f0) l + 1)).drop (cntN (cmpK ed[i].f0) l) = l.drop (cntN (cmpK ed[i].f0) l + 1) := by
        rw [List.drop_append, List.drop_eq_nil_of_le (by rw [List.length_take]; omega), List.length_take, Nat.min_eq_left (by omega), Nat.sub_self, List.drop_zero, List.nil_append]
      simp only [if_true, delete_at hc (show l.length ≤ 2000000 by omega), Option.bind_some, insert_at _ hdc hdl, ht, hdd]
      cases hg : ed[i].f2 with
      | true =>
        have he : edit1 l ed[i] = l.take (cntN (cmpK ed[i].f0) l) ++ l.drop (cntN (cmpK ed[i].f0) l + 1) := by
          unfold edit1 remL
          rw [if_pos hg, behK_found hf]
        simp only [if_true]
        rw [he] at hn
        rw [he]
        exact hn
      | false =>
        have he : edit1 l ed[i] = l.take (cntN (cmpK ed[i].f0) l) ++ ⟨ed[i].f0, ed[i].f1⟩ :: l.drop (cntN (cmpK ed[i].f0) l + 1) := by
          unfold edit1 putL
          rw [if_neg (by simp [hg]), behK_found hf]
        simp only [Bool.false_eq_true, if_false]
        rw [he] at hn
        rw [he]
        exact hn
    | false =>
      simp only [Bool.false_eq_true, if_false, insert_at _ hcl (show l.length ≤ 2000000 by omega), Option.bind_some]
      cases hg : ed[i].f2 with
      | true =>
        have he : edit1 l ed[i] = l := by
          unfold edit1 remL
          rw [if_pos hg, behK_new hf, List.take_append_drop]
        simp only [if_true]
        rw [he] at hn
        rw [he]
        exact hn
      | false =>
        have he : edit1 l ed[i] = l.take (cntN (cmpK ed[i].f0) l) ++ ⟨ed[i].f0, ed[i].f1⟩ :: l.drop (cntN (cmpK ed[i].f0) l) := by
          unfold edit1 putL
          rw [if_neg (by simp [hg]), behK_new hf]
        simp only [Bool.false_eq_true, if_false]
        rw [he] at hn
        rw [he]
        exact hn
theorem edited_ev {l : List S55} (ed : List S62) (hr : RiseP l) (hl : l.length + ed.length ≤ 1000000) : Ev (fun k => impl_edited.f k l ed) (ed.foldl edit1 l) := by
  unfold impl_edited.f
  rw [clone_e (by omega)]
  simp only [Option.bind_some]
  have h := edited_loop ed (by omega) ed.length 0 l (by omega) hr hl
  rw [List.drop_zero] at h
  exact h
theorem take_next {l : List S55} {i : Nat} (h : i < l.length) : l.take (i + 1) = l.take i ++ [l[i]] := by
  rw [List.take_add_one, List.getElem?_eq_getElem h]
  rfl
theorem drop_next {l : List S55} {i b : Nat} (h : i < l.length) (hb : b ≤ i) : (l.take (i + 1)).drop b = (l.take i).drop b ++ [l[i]] := by
  rw [take_next h, List.drop_append_of_le_length (by rw [List.length_take]; omega)]
def putAcc (l : List S55) (k : ByteArray) (v : Int) (i : Nat) : List S55 := if i ≤ cntN (cmpK k) l then l.take i else l.take (cntN (cmpK k) l) ++ ⟨k, v⟩ :: (l.take i).drop (behK k l)
theorem putAcc_len (l : List S55) (k : ByteArray) (v : Int) (i : Nat) (hl : l.length ≤ 1000000) : (putAcc l k v i).length < 5864062014805 - 1 := by
  unfold putAcc
  have h1 := cntN_le (cmpK k) l
  split
  · rw [List.length_take]; omega
  · rw [List.length_append, List.length_take, List.length_cons, List.length_drop, List.length_take]; omega
theorem key_ne {l : List S55} (hr : RiseP l) (k : ByteArray) (i : Nat) (hi : i < l.length) (h : i ≠ cntN (cmpK k) l ∨ fndB (cmpK k) l = false) : ¬ (l[i].f0.toList = k.toList) := by
  intro e
  have e2 := toList_inj e
  obtain ⟨h1, h2⟩ := find_some hr hi e2
  rcases h with h | h
  · exact h h1.symm
  · rw [h2] at h; cases h
theorem l01Put_loop {l : List S55} (hr : RiseP l) (k : ByteArray) (v : Int) (hl : l.length ≤ 1000000) : ∀ (d i : Nat), i + d = l.length → Ev (fun q => spec_l01Put.l0 q l k v (putAcc l k v i) (decide (cntN (cmpK k) l < i)) (i : Int)) (putL l k v) := by
  have hcl := cntN_le (cmpK k) l
  have hbl := behK_le hr k
  have hcb : cntN (cmpK k) l ≤ behK k l := by unfold behK; omega
  have hbc : behK k l ≤ cntN (cmpK k) l + 1 := by unfold behK; split <;> omega
  intro d
  induction d with
  | zero =>
    intro i hi
    obtain rfl : i = l.length := by omega
    refine Ev.at_ (c := 1) (fun q => ?_)
    simp only [spec_l01Put.l0]
    rw [if_neg (by omega)]
    by_cases hc : cntN (cmpK k) l < l.length
    · simp only [hc, decide_true, if_true]
      unfold putAcc putL
      rw [if_neg (by omega), List.take_length]
    · have hce : cntN (cmpK k) l = l.length := by omega
      have hlt := putAcc_len l k v l.length hl
      simp only [hc, decide_false, Bool.false_eq_true, if_false, (show (putAcc l k v l.length).length < 5864062014805 by omega), if_true]
      unfold putAcc putL
      rw [if_pos (by omega), hce, List.drop_of_length_le (by omega)]
  | succ d ih =>
    intro i hi
    have hil : i < l.length := by omega
    have c1 : (i : Int) < (l.length : Int) := by omega
    have e1 : rd_T55 l (i : Int) = l[i] := rdEntry hil
    have hn := ih (i + 1) (by omega)
    have hlt := putAcc_len l k v i hl
    have hlt2 : (putAcc l k v i).length < 5864062014805 := by omega
    have w := wrap_i (show i < 4611686018427387904 by omega)
    rcases Nat.lt_trichotomy i (cntN (cmpK k) l) with hic | hic | hic
    · -- ahead of the key
      have hless : Op.bytesLess l[i].f0.toList k.toList = true := (cnt_at hr k i hil).mp hic
      have hne := key_ne hr k i hil (.inl (by omega))
      have d0 : decide (cntN (cmpK k) l < i) = false := decide_eq_false (by omega)
      have d1 : decide (cntN (cmpK k) l < i + 1) = false := decide_eq_false (by omega)
      have ha : putAcc l k v (i + 1) = putAcc l k v i ++ [l[i]] := by
        unfold putAcc
        rw [if_pos (by omega), if_pos (by omega), take_next hil]
      rw [d1, ha] at hn
      refine Ev.succ (Ev.succ ?_)
      simp only [spec_l01Put.l0, spec_l01Put.j1, c1, if_true, d0, Bool.false_eq_true, if_false, Int.natCast_nonneg, e1, hless, Bool.not_true, hne, hlt2, w]
      exact hn
    · -- at its place
      have hless : Op.bytesLess l[i].f0.toList k.toList = false := by
        cases hb : Op.bytesLess l[i].f0.toList k.toList with
        | false => rfl
        | true =>
          have := (cnt_at hr k i hil).mpr hb
          omega
      have d0 : decide (cntN (cmpK k) l < i) = false := decide_eq_false (by omega)
      have d1 : decide (cntN (cmpK k) l < i + 1) = true := decide_eq_true (by omega)
      have ha0 : putAcc l k v i = l.take i := by unfold putAcc; rw [if_pos (by omega)]
      have hlt3 : (l.take i ++ [(⟨k, v⟩ : S55)]).length < 5864062014805 := by rw [List.length_append, List.length_take, List.length_singleton]; omega
      have hlt4 : (l.take i).length < 5864062014805 := by rw [List.length_take]; omega
      have ha1 : putAcc l k v (i + 1) = l.take i ++ ⟨k, v⟩ :: (l.take (i + 1)).drop (behK k l) := by unfold putAcc; rw [if_neg (by omega), ← hic]
      rw [d1, ha1] at hn
      refine Ev.succ (Ev.succ ?_)
      simp only [spec_l01Put.l0, spec_l01Put.j1, c1, if_true, d0, Bool.false_eq_true, if_false, Int.natCast_nonneg, e1, hless, Bool.not_false, ha0, hlt4, Option.bind_some, w]
      cases hf : fndB (cmpK k) l with
      | true =>
        obtain ⟨hc, hk⟩ := (fnd_at hr k).mp hf
        have hkk : l[i].f0.toList = k.toList := by
          have : l[i].f0 = k := by simpa [hic] using hk
          rw [this]
        simp only [hkk, if_true]
        rw [behK_found hf, ← hic, List.drop_of_length_le (by rw [List.length_take]; omega)] at hn
        exact hn
      | false =>
        have hne := key_ne hr k i hil (.inr hf)
        simp only [hne, if_false, hlt3, if_true]
        rw [behK_new hf, ← hic, drop_next hil (Nat.le_refl i), List.drop_of_length_le (by rw [List.length_take]; omega), List.nil_append] at hn
        rw [List.append_assoc]
        exact hn
    · -- behind it
      have hne := key_ne hr k i hil (.inl (by omega))
      have d0 : decide (cntN (cmpK k) l < i) = true := decide_eq_true hic
      have d1 : decide (cntN (cmpK k) l < i + 1) = true := decide_eq_true (by omega)
      have ha : putAcc l k v (i + 1) = putAcc l k v i ++ [l[i]] := by
        unfold putAcc
        rw [if_neg (by omega), if_neg (by omega), drop_next hil (by omega), List.append_assoc, List.cons_append]
      rw [d1, ha] at hn
      refine Ev.succ (Ev.succ ?_)
      simp only [spec_l01Put.l0, spec_l01Put.j1, c1, if_true, d0, Bool.false_eq_true, if_false, Int.natCast_nonneg, e1, hne, hlt2, w]
      exact hn
theorem l01Put_ev {l : List S55} (hr : RiseP l) (k : ByteArray) (v : Int) (hl : l.length ≤ 1000000) : Ev (fun q => spec_l01Put.f q l k v) (putL l k v) := by
  unfold spec_l01Put.f
  have h := l01Put_loop hr k v hl l.length 0 (by omega)
  have e : putAcc l k v 0 = [] := by unfold putAcc; rw [if_pos (Nat.zero_le _), List.take_zero]
  have d : decide (cntN (cmpK k) l < 0) = false := decide_eq_false (by omega)
  rw [e, d] at h
  exact h
def remAcc (l : List S55) (k : ByteArray) (i : Nat) : List S55 := if i ≤ cntN (cmpK k) l then l.take i else l.take (cntN (cmpK k) l) ++ (l.take i).drop (behK k l)
theorem l01Remove_loop {l : List S55} (hr : RiseP l) (k : ByteArray) (hl : l.length ≤ 1000000) : ∀ (d i : Nat), i + d = l.length → Ev (fun q => spec_l01Remove.l0 q l k (remAcc l k i) (i : Int)) (remL l k) := by
  have hcl := cntN_le (cmpK k) l
  have hbl := behK_le hr k
  have hcb : cntN (cmpK k) l ≤ behK k l := by unfold behK; omega
  have hbc : behK k l ≤ cntN (cmpK k) l + 1 := by unfold behK; split <;> omega
  intro d
  induction d with
  | zero =>
    intro i hi
    obtain rfl : i = l.length := by omega
    refine Ev.at_ (c := 1) (fun q => ?_)
    simp only [spec_l01Remove.l0]
    rw [if_neg (by omega)]
    unfold remAcc remL
    by_cases hc : cntN (cmpK k) l < l.length
    · rw [if_neg (by omega), List.take_length]
    · have hce : cntN (cmpK k) l = l.length := by omega
      rw [if_pos (by omega), hce, List.drop_of_length_le (by omega), List.append_nil]
  | succ d ih =>
    intro i hi
    have hil : i < l.length := by omega
    have c1 : (i : Int) < (l.length : Int) := by omega
    have e1 : rd_T55 l (i : Int) = l[i] := rdEntry hil
    have hn := ih (i + 1) (by omega)
    have hlt2 : (remAcc l k i).length < 5864062014805 := by
      unfold remAcc
      split
      · rw [List.length_take]; omega
      · rw [List.length_append, List.length_take, List.length_drop, List.length_take]; omega
    have w := wrap_i (show i < 4611686018427387904 by omega)
    by_cases hat : i = cntN (cmpK k) l ∧ fndB (cmpK k) l = true
    · obtain ⟨hic, hf⟩ := hat
      obtain ⟨hc, hk⟩ := (fnd_at hr k).mp hf
      have hkk : l[i].f0.toList = k.toList := by
        have : l[i].f0 = k := by simpa [hic] using hk
        rw [this]
      have ha : remAcc l k (i + 1) = remAcc l k i := by
        unfold remAcc
        rw [if_neg (by omega), if_pos (by omega), behK_found hf, ← hic, List.drop_of_length_le (by rw [List.length_take]; omega), List.append_nil]
      rw [ha] at hn
      refine Ev.succ ?_
      simp only [spec_l01Remove.l0, c1, if_true, Int.natCast_nonneg, e1, hkk, w]
      exact hn
    · have hne := key_ne hr k i hil (by
        by_cases h1 : i = cntN (cmpK k) l
        · right
          cases hf : fndB (cmpK k) l with
          | false => rfl
          | true => exact absurd ⟨h1, hf⟩ hat
        · exact .inl h1)
      have ha : remAcc l k (i + 1) = remAcc l k i ++ [l[i]] := by
        unfold remAcc
        rcases Nat.lt_trichotomy i (cntN (cmpK k) l) with hic | hic | hic
        · rw [if_pos (by omega), if_pos (by omega), take_next hil]
        · have hf : fndB (cmpK k) l = false := by
            cases hf : fndB (cmpK k) l with
            | false => rfl
            | true => exact absurd ⟨hic, hf⟩ hat
          rw [if_neg (by omega), if_pos (by omega), behK_new hf, ← hic, drop_next hil (Nat.le_refl i), List.drop_of_length_le (by rw [List.length_take]; omega), List.nil_append]
        · rw [if_neg (by omega), if_neg (by omega), drop_next hil (by omega), List.append_assoc]
      rw [ha] at hn
      refine Ev.succ ?_
      simp only [spec_l01Remove.l0, c1, if_true, Int.natCast_nonneg, e1, hne, if_false, hlt2, w]
      exact hn
theorem l01Remove_ev {l : List S55} (hr : RiseP l) (k : ByteArray) (hl : l.length ≤ 1000000) : Ev (fun q => spec_l01Remove.f q l k) (remL l k) := by
  unfold spec_l01Remove.f
  have h := l01Remove_loop hr k hl l.length 0 (by omega)
  have e : remAcc l k 0 = [] := by unfold remAcc; rw [if_pos (Nat.zero_le _), List.take_zero]
  rw [e] at h
  exact h
end Go.Proofs.Ytblejbgkcgajgaa.Q
end

section
namespace Go.Proofs.Ytblejbgkcgajgaa.Q
open Go.RowKit Go.Proofs.YtblejbgkcgajgaaW.PrintWords Go.Proofs.YtblejbgkcgajgaaW.PrintLast
set_option linter.unusedVariables false
set_option linter.unusedSimpArgs false
theorem l01Apply_loop (ed : List S62) (hed : ed.length ≤ 900000) : ∀ (d i : Nat) (l : List S55), i + d = ed.length → RiseP l → l.length + d ≤ 1000000 → Ev (fun k => spec_l01Apply.l0 k l ed (i : Int)) ((ed.drop i).foldl edit1 l) := by
  intro d
  induction d with
  | zero =>
    intro i l hi hr hl
    rw [List.drop_of_length_le (by omega)]
    refine Ev.at_ (c := 1) (fun k => ?_)
    simp only [spec_l01Apply.l0]
    rw [if_neg (by omega)]
    rfl
  | succ d ih =>
    intro i l hi hr hl
    have hil : i < ed.length := by omega
    have c1 : (i : Int) < (ed.length : Int) := by omega
    have e1 : rd_T62 ed (i : Int) = ed[i] := by simp [rd_T62, List.getD_eq_getElem?_getD, List.getElem?_eq_getElem hil]
    have hn := ih (i + 1) (edit1 l ed[i]) (by omega) (edit1_rise hr _) (by have := edit1_len l ed[i]; omega)
    rw [List.drop_eq_getElem_cons hil, List.foldl_cons]
    refine Ev.succ ?_
    simp only [spec_l01Apply.l0, c1, Int.natCast_nonneg, if_true, e1, wrap_i (show i < 4611686018427387904 by omega)]
    cases hg : ed[i].f2 with
    | true =>
      have he : edit1 l ed[i] = remL l ed[i].f0 := by unfold edit1; rw [if_pos hg]
      simp only [if_true]
      rw [he] at hn
      rw [he]
      exact Ev.bind (l01Remove_ev hr _ (by omega)) hn
    | false =>
      have he : edit1 l ed[i] = putL l ed[i].f0 ed[i].f1 := by unfold edit1; rw [if_neg (by simp [hg])]
      simp only [Bool.false_eq_true, if_false]
      rw [he] at hn
      rw [he]
      exact Ev.bind (l01Put_ev hr _ _ (by omega)) hn
theorem l01Apply_ev {l : List S55} (ed : List S62) (hr : RiseP l) (hl : l.length + ed.length ≤ 900000) : Ev (fun k => spec_l01Apply.f k l ed) (ed.foldl edit1 l) := by
  unfold spec_l01Apply.f
  simp only [Option.bind_some, List.length_nil, Nat.zero_add, List.nil_append, (show l.length < 5864062014805 by omega), if_true]
  have h := l01Apply_loop ed (by omega) ed.length 0 l (by omega) hr (by omega)
  rw [List.drop_zero] at h
  exact h
end Go.Proofs.Ytblejbgkcgajgaa.Q
end

section
namespace Go.Proofs.Ytblejbgkcgajgaa.Q
open Go.RowKit Go.Proofs.YtblejbgkcgajgaaW.PrintWords Go.Proofs.YtblejbgkcgajgaaW.PrintLast
set_option linter.unusedVariables false
set_option linter.unusedSimpArgs false
theorem rdEdit {l : List S62} {i : Nat} (h : i < l.length) : rd_T62 l (i : Int) = l[i] := by
  simp [rd_T62, List.getD_eq_getElem?_getD, List.getElem?_eq_getElem h]
theorem last_keep (key : ByteArray) : ∀ (l : List S62) (a : Option S62), (∀ x, x ∈ l → x.f0 ≠ key) → l.foldl (fun a e => if e.f0 = key then some e else a) a = a
  | [], a, _ => rfl
  | x :: l, a, h => by
    rw [List.foldl_cons, if_neg (h x List.mem_cons_self)]
    exact last_keep key l a (fun y hy => h y (List.mem_cons_of_mem _ hy))
theorem last_none {l : List S62} {key : ByteArray} (h : ∀ i (hi : i < l.length), l[i].f0 ≠ key) : lastE l key = none := by
  refine last_keep key l none (fun x hx => ?_)
  obtain ⟨i, hi, rfl⟩ := List.mem_iff_getElem.mp hx
  exact h i hi
theorem last_some {l : List S62} {key : ByteArray} (hr : l.Pairwise (fun a b => sblt a.f0 b.f0 = true)) {i : Nat} (hi : i < l.length) (hk : l[i].f0 = key) : lastE l key = some l[i] := by
  have e : l = l.take i ++ l[i] :: l.drop (i + 1) := by rw [← List.drop_eq_getElem_cons hi, List.take_append_drop]
  have hp := List.pairwise_iff_getElem.mp hr
  have h1 : lastE (l.take i ++ l[i] :: l.drop (i + 1)) key = some l[i] := by
    unfold lastE
    rw [List.foldl_append, List.foldl_cons, if_pos hk]
    refine last_keep key _ _ (fun x hx => ?_)
    obtain ⟨j, hj, rfl⟩ := List.mem_iff_getElem.mp hx
    rw [List.length_drop] at hj
    rw [List.getElem_drop, ← hk]
    exact fun h => sblt_ne (hp i (i + 1 + j) hi (by omega) (by omega)) h.symm
  rwa [← e] at h1
def foundE (l : List S62) (key : ByteArray) : ByteArray × Int × Bool × Bool := ((gotE l key).f0, (gotE l key).f1, (gotE l key).f2, hasE l key)
theorem find_loop (l : List S62) (key : ByteArray) (hr : l.Pairwise (fun a b => sblt a.f0 b.f0 = true)) (hl : l.length ≤ 1000000) : ∀ (d i : Nat), i + d = l.length → (∀ j (hj : j < l.length), j < i → l[j].f0 ≠ key) → Ev (fun k => spec_l02Find.l0 k l key (i : Int)) (foundE l key) := by
  intro d
  induction d with
  | zero =>
    intro i hi hn
    obtain rfl : i = l.length := by omega
    have c : ¬ ((l.length : Int) < (l.length : Int)) := by omega
    have h0 := last_none (fun j hj => hn j hj hj)
    refine Ev.at_ (c := 1) (fun k => ?_)
    simp only [spec_l02Find.l0, if_neg c, foundE, gotE, hasE, h0]
    rfl
  | succ d ih =>
    intro i hi hn
    have hil : i < l.length := by omega
    have c : (i : Int) < (l.length : Int) := by omega
    have i0 : (0 : Int) ≤ (i : Int) := Int.natCast_nonneg _
    by_cases hk : l[i].f0 = key
    · have h0 := last_some hr hil hk
      have hk2 : l[i].f0.toList = key.toList := by rw [hk]
      refine Ev.at_ (c := 1) (fun k => ?_)
      simp only [spec_l02Find.l0, if_pos c, if_pos i0, rdEdit hil, if_pos hk2, foundE, gotE, hasE, h0]
      rfl
    · have hk2 : ¬ l[i].f0.toList = key.toList := fun h => hk (toList_inj h)
      refine Ev.shift (c := 1) (d := 0) (fun k => ?_) (ih (i + 1) (by omega) (fun j hj h2 => ?_))
      · simp only [spec_l02Find.l0, if_pos c, if_pos i0, rdEdit hil, if_neg hk2, wrap_i (show i < 4611686018427387904 by omega), Nat.add_zero]
      · rcases Nat.lt_or_eq_of_le (Nat.le_of_lt_succ h2) with h3 | h3
        · exact hn j hj h3
        · subst h3; exact hk
theorem find_ev (l : List S62) (key : ByteArray) (hr : l.Pairwise (fun a b => sblt a.f0 b.f0 = true)) (hl : l.length ≤ 1000000) : Ev (fun k => spec_l02Find.f k l key) (foundE l key) :=
  find_loop l key hr hl l.length 0 (by omega) (fun j _ h => absurd h (Nat.not_lt_zero _))
theorem merge_loop (a : List S55) (L R : List S62) (ha : RiseP a) (hL : L.Pairwise (fun a b => sblt a.f0 b.f0 = true)) (hn : a.length + L.length + R.length ≤ 800000) : ∀ (d i : Nat), i + d = R.length →
    Ev (fun k => spec_l02Merge.l0 k a L R (mrg L (R.take i)).2 (mrg L (R.take i)).1 (i : Int)) ((mrg L R).1.foldl edit1 a, (mrg L R).2) := by
  intro d
  induction d with
  | zero =>
    intro i hi
    obtain rfl : i = R.length := by omega
    have c : ¬ ((R.length : Int) < (R.length : Int)) := by omega
    have hlen := (mrg_len L R R.length (Nat.le_refl _)).1
    rw [List.take_length] at hlen ⊢
    refine Ev.succ ?_
    simp only [spec_l02Merge.l0, if_neg c]
    exact Ev.bind (l01Apply_ev (mrg L R).1 ha (by omega)) (Ev.now _)
  | succ d ih =>
    intro i hi
    have hil : i < R.length := by omega
    have c : (i : Int) < (R.length : Int) := by omega
    have i0 : (0 : Int) ≤ (i : Int) := Int.natCast_nonneg _
    have hlen := mrg_len L R i (by omega)
    have w := wrap_i (show i < 4611686018427387904 by omega)
    have l1 : (mrg L (R.take i)).2.length < 8796093022208 := by omega
    have l2 : (mrg L (R.take i)).1.length < 4398046511104 := by omega
    have hf := find_ev L R[i].f0 hL (by omega)
    have hi2 := ih (i + 1) (by omega)
    rw [mrg_take L R i hil] at hi2
    unfold mstep at hi2
    refine Ev.succ ?_
    simp only [spec_l02Merge.l0, if_pos c, if_pos i0, rdEdit hil, if_pos l1, if_pos l2, w]
    refine Ev.bind hf ?_
    unfold foundE
    simp only
    cases hh : hasE L R[i].f0 with
    | true =>
      rw [if_pos hh] at hi2
      simp only [if_true]
      have hne : (!(gotE L R[i].f0).f0.toList == R[i].f0.toList || (!(gotE L R[i].f0).f1 == R[i].f1 || !(gotE L R[i].f0).f2 == R[i].f2)) = neE (gotE L R[i].f0) R[i] := rfl
      rw [hne]
      cases hd : neE (gotE L R[i].f0) R[i] with
      | true =>
        rw [if_pos hd] at hi2
        simp only [if_true]
        exact hi2
      | false =>
        rw [if_neg (by rw [hd]; simp)] at hi2
        simp only [Bool.false_eq_true, if_false]
        exact hi2
    | false =>
      rw [if_neg (by rw [hh]; simp)] at hi2
      simp only [Bool.false_eq_true, if_false]
      exact hi2
def told (m : List S55) (c : List ByteArray) : List S55 × List ByteArray × Int := if (c.length : Int) > 0 then ([], c, 11) else if (m.length : Int) > 12 then ([], [], 7) else (m, [], 0)
theorem told_f (m : List S55) (c : List ByteArray) : spec_l02Told.f m c = some (told m c) := by
  unfold spec_l02Told.f told
  split
  · rfl
  · split <;> rfl
def mergeM (b x y : List S55) : List S55 := (mrg (diffM b x) (diffM b y)).1.foldl edit1 x
def mergeC (b x y : List S55) : List ByteArray := (mrg (diffM b x) (diffM b y)).2
def keysS (l : List S55) : Prop := ∀ x, x ∈ l → x.f0.size ≤ 1000000
theorem diff_keys {a b : List S55} (ha : keysS a) (hb : keysS b) : ∀ e, e ∈ diffM a b → e.f0.size ≤ 1000000 := by
  intro e he
  rcases diffM_key a b e he with ⟨x, hx, hk⟩ | ⟨x, hx, hk⟩
  · rw [hk]; exact ha x hx
  · rw [hk]; exact hb x hx
theorem merge_spec {b x y : List S55} (hb : RiseP b) (hx : RiseP x) (hy : RiseP y) (hl : b.length + x.length + y.length ≤ 100000) : Ev (fun k => spec_l02Merge.f k b x y) (mergeM b x y, mergeC b x y) := by
  have e1 := l01Diff_ev b x (by omega) (by omega)
  have e2 := l01Diff_ev b y (by omega) (by omega)
  have d1 := diffM_len b x
  have d2 := diffM_len b y
  have h := merge_loop x (diffM b x) (diffM b y) hx (diffM_rise b x hb hx) (by omega) (diffM b y).length 0 (by omega)
  unfold spec_l02Merge.f
  exact Ev.bind e1 (Ev.bind e2 h)
theorem merge_impl {b x y : List S55} (hb : RiseP b) (hx : RiseP x) (hy : RiseP y) (hl : b.length + x.length + y.length ≤ 100000) (kb : keysS b) (kx : keysS x) (ky : keysS y) : Ev (fun k => impl_merge.f k b x y) (told (mergeM b x y) (mergeC b x y)) := by
  have e1 := diff_ev b x hb hx (by omega) (by omega)
  have e2 := diff_ev b y hb hy (by omega) (by omega)
  have d1 := diffM_len b x
  have d2 := diffM_len b y
  have hlen := mrg_len (diffM b x) (diffM b y) (diffM b y).length (Nat.le_refl _)
  rw [List.take_length] at hlen
  have hs : small (diffM b x) (diffM b y) = true := by
    unfold small
    rw [Bool.and_eq_true]
    refine ⟨List.all_eq_true.mpr (fun e he => decide_eq_true ?_), decide_eq_true (by omega)⟩
    rcases List.mem_append.mp he with he | he
    · exact diff_keys kb kx e he
    · exact diff_keys kb ky e he
  unfold impl_merge.f told
  refine Ev.bind e1 (Ev.bind e2 ?_)
  simp only [if_pos hs]
  by_cases hc : 0 < (mrg (diffM b x) (diffM b y)).2.length
  · have hc2 : ((mergeC b x y).length : Int) > 0 := by unfold mergeC; omega
    rw [if_pos hc2]
    simp only [if_pos hc]
    exact Ev.now _
  · have hc2 : ¬ ((mergeC b x y).length : Int) > 0 := by unfold mergeC; omega
    rw [if_neg hc2]
    simp only [if_neg hc]
    refine Ev.bind (edited_ev (mrg (diffM b x) (diffM b y)).1 hx (by omega)) ?_
    unfold impl_limited.f
    have e3 : (mrg (diffM b x) (diffM b y)).1.foldl edit1 x = mergeM b x y := rfl
    rw [e3]
    by_cases h13 : ((mergeM b x y).length : Int) > 12
    · simp only [if_pos h13, Option.bind_some]
      exact Ev.now _
    · simp only [if_neg h13, Option.bind_some]
      exact Ev.now _
theorem told_len (m : List S55) (c : List ByteArray) : (told m c).1.length ≤ 12 ∧ (told m c).2.1.length ≤ c.length := by
  unfold told
  split
  · simp
  · split
    · simp
    · simp; omega
theorem mergeC_len (b x y : List S55) : (mergeC b x y).length ≤ b.length + y.length := by
  have hlen := (mrg_len (diffM b x) (diffM b y) (diffM b y).length (Nat.le_refl _)).2
  rw [List.take_length] at hlen
  have d2 := diffM_len b y
  unfold mergeC
  omega
theorem mapB_keys {m : List S55} (h : mapB m = true) : keysS m := by
  intro x hx
  obtain ⟨i, hi, rfl⟩ := List.mem_iff_getElem.mp hx
  unfold mapB at h
  simp only [Bool.and_eq_true, decide_eq_true_eq, allR_iff] at h
  have h2 := h.2 i hi
  unfold entAt entB at h2
  rw [rdEntry hi] at h2
  simp only [Bool.and_eq_true] at h2
  have h3 := h2.1.1
  unfold nameB at h3
  simp only [Bool.and_eq_true, decide_eq_true_eq] at h3
  omega
end Go.Proofs.Ytblejbgkcgajgaa.Q
end

section
namespace Go.Proofs.Ytblejbgkcgajgaa.Q
open Go.RowKit Go.Proofs.YtblejbgkcgajgaaW.PrintWords Go.Proofs.YtblejbgkcgajgaaW.PrintLast
theorem isValue_f (n : Int) : impl_isValue.f n = some (inB n (-1000000) 1000000) := by
  unfold impl_isValue.f impl_within.f inB
  by_cases h : (-1000000 : Int) ≤ n <;> simp [h]
theorem mapOK_l0 (l : List S55) (hlen : l.length ≤ 4611686018427387904) (d : Nat) : ∀ i : Nat, i + d = l.length → (∀ j, j < i → entAt l j = true) → Ev (fun k => impl_MapOK.l0 k l l (l.length : Int) (i : Int)) (mapB l) := by
  induction d with
  | zero =>
    intro i hi hp
    have e : mapB l = decide ((l.length : Int) ≤ 12) := by
      unfold mapB
      rw [allR_true (fun j hj => hp j (by omega)), Bool.and_true]
      by_cases h : l.length ≤ 12
      · rw [decide_eq_true h, decide_eq_true (by omega)]
      · rw [decide_eq_false h, decide_eq_false (by omega)]
    rw [e]
    exact Ev.step (f := fun _ => some (decide ((l.length : Int) ≤ 12))) (fun k => by simp only [impl_MapOK.l0]; rw [if_neg (by omega)]) (Ev.now _)
  | succ d ih =>
    intro i hi hp
    have hw : wrap64 ((i : Int) + 1) = ((i + 1 : Nat) : Int) := by unfold wrap64; omega
    have hbad : entAt l i = false → mapB l = false := fun h => by
      unfold mapB
      rw [allR_false (j := i) (by omega) h, Bool.and_false]
    have hgo : entAt l i = true → Ev (fun k => impl_MapOK.l0 k l l (l.length : Int) ((i + 1 : Nat) : Int)) (mapB l) := fun h => ih (i + 1) (by omega) (fun j hj => by
      by_cases e : j = i
      · rw [e]; exact h
      · exact hp j (by omega))
    have E : entAt l i = (nameB (rd_T55 l (i : Int)).f0 && inB (rd_T55 l (i : Int)).f1 (-1000000) 1000000 && (i == 0 || sblt (rd_T55 l ((i : Int) - 1)).f0 (rd_T55 l (i : Int)).f0)) := rfl
    have c1 : (i : Int) < (l.length : Int) := by omega
    have c2 : (0 : Int) ≤ (i : Int) := by omega
    cases hN : nameB (rd_T55 l (i : Int)).f0 with
    | false =>
      rw [hbad (by rw [E, hN]; rfl)]
      refine Ev.step (f := fun _ => some false) (fun k => ?_) (Ev.now _)
      simp only [impl_MapOK.l0, impl_NameOK.f, hN, if_pos c1, if_pos c2, Option.bind_some, Bool.false_eq_true, if_false]
    | true =>
      cases hV : inB (rd_T55 l (i : Int)).f1 (-1000000) 1000000 with
      | false =>
        rw [hbad (by rw [E, hN, hV]; rfl)]
        refine Ev.step (f := fun _ => some false) (fun k => ?_) (Ev.now _)
        simp only [impl_MapOK.l0, impl_NameOK.f, isValue_f, hN, hV, if_pos c1, if_pos c2, Option.bind_some, Bool.false_eq_true, if_false, if_true]
      | true =>
        by_cases hz : i = 0
        · have hg := hgo (by rw [E, hN, hV]; simp [hz])
          refine Ev.step (fun k => ?_) hg
          have c3 : ¬ ((i : Int) > 0) := by omega
          simp only [impl_MapOK.l0, impl_NameOK.f, isValue_f, hN, hV, if_pos c1, if_pos c2, if_neg c3, Option.bind_some, if_true, hw]
        · have c3 : (i : Int) > 0 := by omega
          have hw2 : wrap64 ((i : Int) - 1) = (i : Int) - 1 := by unfold wrap64; omega
          have c4 : (0 : Int) ≤ (i : Int) - 1 := by omega
          have c5 : (i : Int) - 1 < (l.length : Int) := by omega
          have z : (i == 0) = false := by simp [hz]
          cases hS : sblt (rd_T55 l ((i : Int) - 1)).f0 (rd_T55 l (i : Int)).f0 with
          | false =>
            rw [hbad (by rw [E, hN, hV, hS, z]; rfl)]
            have hS1 : Op.bytesLess (rd_T55 l ((i : Int) - 1)).f0.toList (rd_T55 l (i : Int)).f0.toList = false := hS
            refine Ev.step (f := fun _ => some false) (fun k => ?_) (Ev.now _)
            simp only [impl_MapOK.l0, impl_NameOK.f, isValue_f, hN, hV, hS1, hw2, if_pos c1, if_pos c2, if_pos c3, if_pos c4, if_pos c5, Option.bind_some, if_true, Bool.false_eq_true, if_false]
          | true =>
            have hg := hgo (by rw [E, hN, hV, hS]; simp)
            have hS1 : Op.bytesLess (rd_T55 l ((i : Int) - 1)).f0.toList (rd_T55 l (i : Int)).f0.toList = true := hS
            refine Ev.step (fun k => ?_) hg
            simp only [impl_MapOK.l0, impl_NameOK.f, isValue_f, hN, hV, hS1, hw2, if_pos c1, if_pos c2, if_pos c3, if_pos c4, if_pos c5, Option.bind_some, if_true, hw]
theorem mapOK_ev (l : List S55) (hlen : l.length ≤ 4611686018427387904) : Ev (fun k => impl_MapOK.f k l) (mapB l) := mapOK_l0 l hlen l.length 0 (by omega) (fun j hj => absurd hj (Nat.not_lt_zero _))
end Go.Proofs.Ytblejbgkcgajgaa.Q
end

section
namespace Go.Proofs.Ytblejbgkcgajgaa.Q
open Go.RowKit Go.Proofs.YtblejbgkcgajgaaW.PrintWords Go.Proofs.YtblejbgkcgajgaaW.PrintLast
set_option linter.unusedVariables false
set_option linter.unusedSimpArgs false
theorem editsOK_ev (l : List S62) (hlen : l.length ≤ 1048576) : Ev (fun k => impl_EditsOK.f k l) (editsB l) := by
  have e : editsB l = (allR (edAt l) l.length && decide ((l.length : Int) ≤ 6)) := by
    unfold editsB
    rw [Bool.and_comm]
    congr 1
    by_cases h : l.length ≤ 6
    · rw [decide_eq_true h, decide_eq_true (by omega)]
    · rw [decide_eq_false h, decide_eq_false (by omega)]
  rw [e]
  refine ev_all_loop (L := fun k i => impl_EditsOK.l0 k l l (l.length : Int) i) (p := edAt l) ?_ ?_ ?_
  · intro i hi hb hp
    refine ⟨1, 0, fun k => ?_⟩
    have c1 : (i : Int) < (l.length : Int) := by omega
    have c2 : (0 : Int) ≤ (i : Int) := by omega
    simp only [edAt, edB, Bool.and_eq_true, Bool.or_eq_true, beq_iff_eq, Bool.not_eq_true', Bool.and_eq_false_iff, decide_eq_false_iff_not, ne_eq, Decidable.not_not] at hp
    obtain ⟨⟨⟨h1, h2⟩, h4⟩, h3⟩ := hp
    simp only [impl_EditsOK.l0, impl_NameOK.f, isValue_f, h1, h2, c1, c2, if_true, Option.bind_some, wrap_i (show i < 4611686018427387904 by omega), Nat.add_zero]
    have goal2 : (if (i : Int) > 0 then (if 0 ≤ (wrap64 ((i : Int) - 1)) then (if (wrap64 ((i : Int) - 1)) < (l.length : Int) then (if ((Op.bytesLess (((rd_T62 l (wrap64 ((i : Int) - 1))).f0).toList) (((rd_T62 l (i : Int)).f0).toList)) = true) then (impl_EditsOK.l0 k l l (l.length : Int) ((i + 1 : Nat) : Int)) else (some false)) else (none)) else (none)) else (impl_EditsOK.l0 k l l (l.length : Int) ((i + 1 : Nat) : Int))) = impl_EditsOK.l0 k l l (l.length : Int) ((i + 1 : Nat) : Int) := by
      rcases Nat.eq_zero_or_pos i with h0 | h0
      · subst h0
        simp
      · have c3 : (i : Int) > 0 := by omega
        have w1 := wrap_1 c2 (by omega)
        have c4 : (0 : Int) ≤ (i : Int) - 1 := by omega
        have c5 : (i : Int) - 1 < (l.length : Int) := by omega
        rcases h3 with h3 | h3
        · omega
        · have h3' : Op.bytesLess (rd_T62 l ((i : Int) - 1)).f0.toList (rd_T62 l (i : Int)).f0.toList = true := h3
          simp only [c3, w1, c4, c5, h3', if_true]
    cases h5 : (rd_T62 l (i : Int)).f2 with
    | true =>
      rw [h5] at h4
      have h6 : (rd_T62 l (i : Int)).f1 = 0 := by simpa using h4
      simp only [if_true, h6]
      exact goal2
    | false =>
      simp only [Bool.false_eq_true, if_false]
      exact goal2
  · intro i hi hb hp
    refine ⟨1, fun k => ?_⟩
    have c1 : (i : Int) < (l.length : Int) := by omega
    have c2 : (0 : Int) ≤ (i : Int) := by omega
    simp only [impl_EditsOK.l0, impl_NameOK.f, isValue_f, c1, c2, if_true, Option.bind_some]
    cases h1 : nameB (rd_T62 l (i : Int)).f0 with
    | false => simp
    | true =>
      cases h2 : inB (rd_T62 l (i : Int)).f1 (-1000000) 1000000 with
      | false => simp
      | true =>
        simp only [if_true]
        have goal2 : (i == 0 || sblt (rd_T62 l ((i : Int) - 1)).f0 (rd_T62 l (i : Int)).f0) = false → (if (i : Int) > 0 then (if 0 ≤ (wrap64 ((i : Int) - 1)) then (if (wrap64 ((i : Int) - 1)) < (l.length : Int) then (if ((Op.bytesLess (((rd_T62 l (wrap64 ((i : Int) - 1))).f0).toList) (((rd_T62 l (i : Int)).f0).toList)) = true) then (impl_EditsOK.l0 k l l (l.length : Int) (wrap64 ((i : Int) + 1))) else (some false)) else (none)) else (none)) else (impl_EditsOK.l0 k l l (l.length : Int) (wrap64 ((i : Int) + 1)))) = some false := by
          intro h3
          simp only [Bool.or_eq_false_iff, beq_eq_false_iff_ne] at h3
          have c3 : (i : Int) > 0 := by omega
          have w1 := wrap_1 c2 (by omega)
          have c4 : (0 : Int) ≤ (i : Int) - 1 := by omega
          have c5 : (i : Int) - 1 < (l.length : Int) := by omega
          have h3' : Op.bytesLess (rd_T62 l ((i : Int) - 1)).f0.toList (rd_T62 l (i : Int)).f0.toList = false := h3.2
          simp only [c3, w1, c4, c5, h3', if_true, Bool.false_eq_true, if_false]
        simp only [edAt, edB, h1, h2, Bool.true_and] at hp
        cases h5 : (rd_T62 l (i : Int)).f2 with
        | true =>
          simp only [if_true]
          by_cases h6 : (rd_T62 l (i : Int)).f1 = 0
          · simp only [h6, if_true]
            refine goal2 ?_
            simpa [h5, h6] using hp
          · simp only [h6, if_false]
        | false =>
          simp only [Bool.false_eq_true, if_false]
          refine goal2 ?_
          simpa [h5] using hp
  · refine Ev.at_ (c := 1) (fun k => ?_)
    simp only [impl_EditsOK.l0]
    rw [if_neg (by omega)]
end Go.Proofs.Ytblejbgkcgajgaa.Q
end

section
namespace Go.Proofs.Ytblejbgkcgajgaa.Q
open Go.RowKit Go.Proofs.YtblejbgkcgajgaaW.PrintWords Go.Proofs.YtblejbgkcgajgaaW.PrintLast
set_option linter.unusedVariables false
set_option linter.unusedSimpArgs false
theorem eqEdit_refl (x : S62) : laws_eqEdit.f x.f0 x.f1 x.f2 x.f0 x.f1 x.f2 = some true := by
  unfold laws_eqEdit.f
  simp
theorem eqEditS_ev (l : List S62) (h : l.length ≤ 1048576) : Ev (fun k => laws_eqEditS.f k l l) true := by
  refine Ev.congr (f := fun k => laws_eqEditS.l0 k l l 0) (fun k => ?_) ?_
  · unfold laws_eqEditS.f
    rw [if_pos rfl]
  · exact ev_refl_loop (L := laws_eqEditS.l0) (g := fun _ x y => laws_eqEdit.f x.f0 x.f1 x.f2 y.f0 y.f1 y.f2) (z := z62) (fun _ _ _ _ => rfl) l (by omega) (fun x _ => Ev.congr (fun _ => eqEdit_refl x) (Ev.now _))
end Go.Proofs.Ytblejbgkcgajgaa.Q
end

section
namespace Go.Proofs.Ytblejbgkcgajgaa.Q
open Go.RowKit Go.Proofs.YtblejbgkcgajgaaW.PrintWords Go.Proofs.YtblejbgkcgajgaaW.PrintLast
set_option linter.unusedVariables false
def cvEdit (x : S67) : S62 := ⟨x.f0, x.f1, x.f2⟩
theorem toEditS_ev (l : List S67) (h : l.length ≤ 1048576) : Ev (fun k => laws_toEditS.f k l) (l.map cvEdit) := by
  refine Ev.congr (f := fun k => laws_toEditS.l0 k l (List.replicate l.length z62) 0) (fun k => ?_) ?_
  · unfold laws_toEditS.f
    rw [if_pos (by omega), if_pos (by omega)]
    rfl
  · exact ev_map_loop (L := laws_toEditS.l0) (g := fun _ x => some (cvEdit x)) (z := z67) (fun _ _ _ _ => rfl) l (by omega) (fun x _ => Ev.now _) _ (by simp)
theorem szEditS_ev (l : List S67) (hl : l.length ≤ 9223372036854775807) (hg : ∀ x, x ∈ l → good67 x) (left : Int) (h0 : 0 ≤ left) (h1 : left ≤ 1048576) :
    ∃ r, Ev (fun k => laws_szEditS.f k l left) r ∧ r ≤ left ∧ (0 ≤ r → l.length ≤ 1048576) := by
  have hw : wrap64 (left - (l.length : Int)) = left - (l.length : Int) := by unfold wrap64; omega
  by_cases hn : left - (l.length : Int) < 0
  · refine ⟨-1, Ev.congr (f := fun _ => some (-1)) (fun k => ?_) (Ev.now _), by omega, by omega⟩
    unfold laws_szEditS.f
    rw [hw, if_pos hn]
  · obtain ⟨r, hr, hrl⟩ := ev_sz_loop (L := laws_szEditS.l0) (g := fun _ x left => laws_szEdit.f x.f0 x.f1 x.f2 left) (z := z67) (fun _ _ _ _ => rfl) l (by omega) (fun x hx left h0 h1 => by
      have hsz : x.f0.size ≤ 9223372036854775807 := (hg x hx).1
      have hw2 : wrap64 (left - (x.f0.size : Int)) = left - (x.f0.size : Int) := by unfold wrap64; omega
      by_cases h2 : left - (x.f0.size : Int) < 0
      · refine ⟨-1, Ev.congr (f := fun _ => some (-1)) (fun k => ?_) (Ev.now _), by omega⟩
        unfold laws_szEdit.f
        rw [hw2, if_pos h2]
      · refine ⟨left - (x.f0.size : Int), Ev.congr (f := fun _ => some (left - (x.f0.size : Int))) (fun k => ?_) (Ev.now _), by omega⟩
        unfold laws_szEdit.f
        rw [hw2, if_neg h2]) (left - (l.length : Int)) (by omega) (by omega)
    refine ⟨r, Ev.congr (f := fun k => laws_szEditS.l0 k l (left - (l.length : Int)) 0) (fun k => ?_) hr, by omega, by omega⟩
    unfold laws_szEditS.f
    rw [hw, if_neg hn]
end Go.Proofs.Ytblejbgkcgajgaa.Q
end

section
namespace Go.Proofs.Ytblejbgkcgajgaa.Q
open Go.RowKit Go.Proofs.YtblejbgkcgajgaaW.PrintWords Go.Proofs.YtblejbgkcgajgaaW.PrintLast Go.Proofs.YtblejbgkcgajgaaW.PrintMore
attribute [local go_sem] max2_int min2_int max_two min_two max_three min_three max_four min_four   -- for this text's walks alone
set_option linter.unusedVariables false
set_option linter.unusedSimpArgs false
attribute [local go_sem] bin_leq bin_gtr bin_geq
def laws_heldEditS.l0 : Nat → List (S62) → Int → Int → Option (Int)
  | 0, _, _, _ => none
  | k + 1, x0, x1, x5 => if x5 < (x0.length : Int) then (if 0 ≤ x5 then ((laws_markText.f k x1).bind fun t307 => (if ((rd_T62 x0 x5).f0).toList = t307.toList then (if ((rd_T62 x0 x5).f1) = (wrap64 (x1 + 1)) then (if (((rd_T62 x0 x5).f2) != ((Int.tmod (wrap64 ((wrap64 (x1 + 1)) + 1)) 3) == 0)) = true then (some (-1)) else (laws_heldEditS.l0 k x0 (wrap64 ((wrap64 ((wrap64 (x1 + 1)) + 1)) + 1)) (wrap64 (x5 + 1)))) else (some (-1))) else (some (-1)))) else (none)) else (some x1)
def laws_heldEditS.f (k : Nat) (l0 : List (S62)) (a1 : Int) : Option (Int) := laws_heldEditS.l0 k l0 a1 0
end Go.Proofs.Ytblejbgkcgajgaa.Q
end

section
namespace Go.Proofs.Ytblejbgkcgajgaa.Q
open Go.RowKit Go.Proofs.YtblejbgkcgajgaaW.PrintWords Go.Proofs.YtblejbgkcgajgaaW.PrintLast
set_option linter.unusedVariables false
set_option linter.unusedSimpArgs false
theorem markText_l0 : ∀ (d : Nat) (n : Int) (s : ByteArray), 0 ≤ n → n ≤ 9223372036854775807 → n < 10 ^ d → s.size + d ≤ 1000 → ∃ r, Ev (fun k => laws_markText.l0 k n s) r := by
  intro d
  induction d with
  | zero =>
    intro n s h0 hn9 h1 hs
    have hn : ¬ n > 0 := by simp at h1; omega
    have hz : 1 + s.size ≤ 9223372036854775807 := by omega
    exact ⟨_, Ev.at_ (c := 1) (fun k => by simp only [laws_markText.l0, hn, if_false, hz, if_true]; rfl)⟩
  | succ d ih =>
    intro n s h0 hn9 h1 hs
    by_cases hn : n > 0
    · have e1 : Int.tdiv n 10 = n / 10 := Int.tdiv_eq_ediv_of_nonneg h0
      have h2 : n / 10 < 10 ^ d := by
        rw [Int.pow_succ] at h1
        omega
      have hw : wrap64 (n / 10) = n / 10 := by unfold wrap64; omega
      have hz : (strOfNums [(wrap64 (48 + (Int.tmod n 10))) % 256]).size = 1 := rfl
      have hz2 : 1 + s.size ≤ 9223372036854775807 := by omega
      obtain ⟨r, hr⟩ := ih (n / 10) (strOfNums [(wrap64 (48 + (Int.tmod n 10))) % 256] ++ s) (by omega) (by omega) h2 (by rw [ByteArray.size_append, hz]; omega)
      refine ⟨r, Ev.step (fun k => ?_) hr⟩
      simp only [laws_markText.l0, hn, if_true, Option.bind_some, hz, hz2, e1, hw]
    · have hz : 1 + s.size ≤ 9223372036854775807 := by omega
      exact ⟨_, Ev.at_ (c := 1) (fun k => by simp only [laws_markText.l0, hn, if_false, hz, if_true]; rfl)⟩
theorem markTexts : ∃ mt : Int → ByteArray, ∀ n, 0 ≤ n → n ≤ 1000000000 → Ev (fun k => laws_markText.f k n) (mt n) := by
  have h : ∀ n : Int, ∃ s, 0 ≤ n → n ≤ 1000000000 → Ev (fun k => laws_markText.f k n) s := by
    intro n
    by_cases h0 : 0 ≤ n ∧ n ≤ 1000000000
    · by_cases h1 : n ≤ 0
      · exact ⟨_, fun _ _ => Ev.at_ (c := 0) (fun k => by unfold laws_markText.f; rw [if_pos h1])⟩
      · obtain ⟨s, hs⟩ := markText_l0 10 n (⟨#[]⟩ : ByteArray) h0.1 (by omega) (by omega) (by decide)
        exact ⟨s, fun _ _ => Ev.congr (fun k => by unfold laws_markText.f; rw [if_neg h1]) hs⟩
    · exact ⟨ByteArray.empty, fun a b => absurd ⟨a, b⟩ h0⟩
  exact ⟨fun n => Classical.choose (h n), fun n => Classical.choose_spec (h n)⟩
theorem ev_mark_loop {α : Type} {L : Nat → List α → Int → Int → Option (Int × List α)} {H : Nat → List α → Int → Int → Option Int} {mk : α → Int → α} {c : Int} (hc : 0 ≤ c)
    (stepL : ∀ (l : List α) (m : Int) (i : Nat) (hi : i < l.length), l.length ≤ 1048576 → 0 ≤ m → m ≤ 900000000 → ∀ r, Ev (fun k => L k (l.set i (mk l[i] m)) (m + c) ((i + 1 : Nat) : Int)) r → Ev (fun k => L k l m (i : Int)) r)
    (stepH : ∀ (l : List α) (m : Int) (i : Nat) (hi : i < l.length) (y : α), l[i] = mk y m → l.length ≤ 1048576 → 0 ≤ m → m ≤ 900000000 → ∀ r, Ev (fun k => H k l (m + c) ((i + 1 : Nat) : Int)) r → Ev (fun k => H k l m (i : Int)) r)
    (doneL : ∀ (l : List α) (m : Int) k, L (k + 1) l m (l.length : Int) = some (m, l)) (doneH : ∀ (l : List α) (m : Int) k, H (k + 1) l m (l.length : Int) = some m)
    (l : List α) (m : Int) (hl : l.length ≤ 1048576) (h0 : 0 ≤ m) (hm : m + c * l.length ≤ 900000000) :
    ∃ l', l'.length = l.length ∧ Ev (fun k => L k l m 0) (m + c * l.length, l') ∧ Ev (fun k => H k l' m 0) (m + c * l.length) := by
  have key : ∀ (d i : Nat) (l : List α) (m : Int), i + d = l.length → l.length ≤ 1048576 → 0 ≤ m → m + c * d ≤ 900000000 →
      ∃ l', l'.length = l.length ∧ l'.take i = l.take i ∧ Ev (fun k => L k l m (i : Int)) (m + c * d, l') ∧ Ev (fun k => H k l' m (i : Int)) (m + c * d) := by
    intro d
    induction d with
    | zero =>
      intro i l m hi hl h0 hm
      obtain rfl : i = l.length := by omega
      refine ⟨l, rfl, rfl, ?_, ?_⟩
      · simp only [Int.natCast_zero, Int.mul_zero, Int.add_zero]
        exact Ev.at_ (c := 1) (doneL l m)
      · simp only [Int.natCast_zero, Int.mul_zero, Int.add_zero]
        exact Ev.at_ (c := 1) (doneH l m)
    | succ d ih =>
      intro i l m hi hl h0 hm
      have hil : i < l.length := by omega
      have e : m + c + c * (d : Int) = m + c * ((d + 1 : Nat) : Int) := by
        rw [Int.natCast_add, Int.natCast_one, Int.mul_add, Int.mul_one]
        omega
      have hcd : 0 ≤ c * (d : Int) := Int.mul_nonneg hc (Int.natCast_nonneg d)
      obtain ⟨l', hl', ht, hL, hH⟩ := ih (i + 1) (l.set i (mk l[i] m)) (m + c) (by rw [List.length_set]; omega) (by rw [List.length_set]; omega) (by omega) (by omega)
      rw [List.length_set] at hl'
      rw [e] at hL hH
      have hg : l'[i]'(by omega) = mk l[i] m := by
        have h1 : (l'.take (i + 1))[i]'(by rw [List.length_take]; omega) = ((l.set i (mk l[i] m)).take (i + 1))[i]'(by rw [List.length_take, List.length_set]; omega) := by simp only [ht]
        simpa using h1
      refine ⟨l', hl', ?_, stepL l m i hil hl h0 (by omega) _ hL, stepH l' m i (by omega) l[i] hg (by omega) h0 (by omega) _ hH⟩
      have h2 := congrArg (List.take i) ht
      rw [List.take_take, List.take_take, Nat.min_eq_left (by omega)] at h2
      rw [h2, List.take_set_of_le (Nat.le_refl _)]
  obtain ⟨l', h1, _, h3, h4⟩ := key l.length 0 l m (by omega) hl h0 hm
  exact ⟨l', h1, h3, h4⟩
end Go.Proofs.Ytblejbgkcgajgaa.Q
end

section
namespace Go.Proofs.Ytblejbgkcgajgaa.Q
open Go.RowKit Go.Proofs.YtblejbgkcgajgaaW.PrintWords Go.Proofs.YtblejbgkcgajgaaW.PrintLast
set_option linter.unusedVariables false
set_option linter.unusedSimpArgs false
theorem markEditS_ev (l : List S62) (m : Int) (hl : l.length ≤ 1048576) (h0 : 0 ≤ m) (hm : m + 3 * l.length ≤ 900000000) :
    ∃ l', l'.length = l.length ∧ Ev (fun k => laws_markEditS.f k l m) (m + 3 * l.length, l') ∧ Ev (fun k => laws_heldEditS.f k l' m) (m + 3 * l.length) := by
  obtain ⟨mt, hmt⟩ := markTexts
  have rd0 : ∀ (l : List S62) (i : Nat) (h : i < l.length), rd_T62 l (i : Int) = l[i] := fun l i h => by simp [rd_T62, List.getD_eq_getElem?_getD, List.getElem?_eq_getElem h]
  have rd1 : ∀ (l : List S62) (i : Nat) (v : S62) (h : i < l.length), rd_T62 (l.set i v) (i : Int) = v := fun l i v h => by rw [rd0 _ _ (by rw [List.length_set]; exact h)]; simp
  refine ev_mark_loop (L := laws_markEditS.l0) (H := laws_heldEditS.l0) (mk := fun x m => ⟨mt (m), m + 1, (Int.tmod (m + 2) 3 == 0)⟩) (c := 3) (by omega) ?_ ?_ ?_ ?_ l m hl h0 hm
  · intro l m i hi hl h0 hm r hr
    have c1 : (i : Int) < (l.length : Int) := by omega
    have w := wrap_i (show i < 4611686018427387904 by omega)
    have w1 : wrap64 (m + 1) = m + 1 := by unfold wrap64; omega
    have w2 : wrap64 (m + 1 + 1) = m + 2 := by unfold wrap64; omega
    have w3 : wrap64 (m + 2 + 1) = m + 3 := by unfold wrap64; omega
    refine Ev.succ (g := fun k => laws_markEditS.l0 k l m (i : Int)) ?_
    simp only [laws_markEditS.l0, c1, if_true, Int.natCast_nonneg, Option.bind_some, Int.toNat_natCast, rd0 l i hi, rd1 l i _ hi, List.set_set, w, w1, w2, w3]
    refine Ev.bind (hmt (m) (by omega) (by omega)) ?_
    (try simp only [if_true, rd0 l i hi, rd1 l i _ hi, List.set_set, Option.bind_some, w1, w2, w3, bne_self_eq_false, Bool.false_eq_true, if_false])
    exact hr
  · intro l m i hi y hy hl h0 hm r hr
    have c1 : (i : Int) < (l.length : Int) := by omega
    have w := wrap_i (show i < 4611686018427387904 by omega)
    have w1 : wrap64 (m + 1) = m + 1 := by unfold wrap64; omega
    have w2 : wrap64 (m + 1 + 1) = m + 2 := by unfold wrap64; omega
    have w3 : wrap64 (m + 2 + 1) = m + 3 := by unfold wrap64; omega
    refine Ev.succ (g := fun k => laws_heldEditS.l0 k l m (i : Int)) ?_
    simp only [laws_heldEditS.l0, c1, if_true, Int.natCast_nonneg, rd0 l i hi, hy, w, w1, w2, w3, bne_self_eq_false, Bool.false_eq_true, if_false]
    refine Ev.bind (hmt (m) (by omega) (by omega)) ?_
    (try simp only [if_true, rd0 l i hi, rd1 l i _ hi, List.set_set, Option.bind_some, w1, w2, w3, bne_self_eq_false, Bool.false_eq_true, if_false])
    exact hr
  · intro l m k
    simp only [laws_markEditS.l0]
    rw [if_neg (by omega)]
  · intro l m k
    simp only [laws_heldEditS.l0]
    rw [if_neg (by omega)]
end Go.Proofs.Ytblejbgkcgajgaa.Q
end

section
namespace Go.Proofs.Ytblejbgkcgajgaa.Q
open Go.RowKit Go.Proofs.YtblejbgkcgajgaaW.PrintWords Go.Proofs.YtblejbgkcgajgaaW.PrintLast
set_option linter.unusedVariables false
def cvEntry (x : S51) : S55 := ⟨x.f0, x.f1⟩
theorem toEntryS_ev (l : List S51) (h : l.length ≤ 1048576) : Ev (fun k => laws_toEntryS.f k l) (l.map cvEntry) := by
  refine Ev.congr (f := fun k => laws_toEntryS.l0 k l (List.replicate l.length z55) 0) (fun k => ?_) ?_
  · unfold laws_toEntryS.f
    rw [if_pos (by omega), if_pos (by omega)]
    rfl
  · exact ev_map_loop (L := laws_toEntryS.l0) (g := fun _ x => some (cvEntry x)) (z := z51) (fun _ _ _ _ => rfl) l (by omega) (fun x _ => Ev.now _) _ (by simp)
theorem eqEntry_refl (x : S55) : laws_eqEntry.f x.f0 x.f1 x.f0 x.f1 = some true := by
  unfold laws_eqEntry.f
  simp
theorem eqEntryS_ev (l : List S55) (h : l.length ≤ 1048576) : Ev (fun k => laws_eqEntryS.f k l l) true := by
  refine Ev.congr (f := fun k => laws_eqEntryS.l0 k l l 0) (fun k => ?_) ?_
  · unfold laws_eqEntryS.f
    rw [if_pos rfl]
  · exact ev_refl_loop (L := laws_eqEntryS.l0) (g := fun _ x y => laws_eqEntry.f x.f0 x.f1 y.f0 y.f1) (z := z55) (fun _ _ _ _ => rfl) l (by omega) (fun x _ => Ev.congr (fun _ => eqEntry_refl x) (Ev.now _))
theorem szEntryS_ev (l : List S51) (hl : l.length ≤ 9223372036854775807) (hg : ∀ x, x ∈ l → good51 x) (left : Int) (h0 : 0 ≤ left) (h1 : left ≤ 1048576) :
    ∃ r, Ev (fun k => laws_szEntryS.f k l left) r ∧ r ≤ left ∧ (0 ≤ r → l.length ≤ 1048576) := by
  have hw : wrap64 (left - (l.length : Int)) = left - (l.length : Int) := by unfold wrap64; omega
  by_cases hn : left - (l.length : Int) < 0
  · refine ⟨-1, Ev.congr (f := fun _ => some (-1)) (fun k => ?_) (Ev.now _), by omega, by omega⟩
    unfold laws_szEntryS.f
    rw [hw, if_pos hn]
  · obtain ⟨r, hr, hrl⟩ := ev_sz_loop (L := laws_szEntryS.l0) (g := fun _ x left => laws_szEntry.f x.f0 x.f1 left) (z := z51) (fun _ _ _ _ => rfl) l (by omega) (fun x hx left h0 h1 => by
      have hsz : x.f0.size ≤ 9223372036854775807 := (hg x hx).1
      have hw2 : wrap64 (left - (x.f0.size : Int)) = left - (x.f0.size : Int) := by unfold wrap64; omega
      by_cases h2 : left - (x.f0.size : Int) < 0
      · refine ⟨-1, Ev.congr (f := fun _ => some (-1)) (fun k => ?_) (Ev.now _), by omega⟩
        unfold laws_szEntry.f
        rw [hw2, if_pos h2]
      · refine ⟨left - (x.f0.size : Int), Ev.congr (f := fun _ => some (left - (x.f0.size : Int))) (fun k => ?_) (Ev.now _), by omega⟩
        unfold laws_szEntry.f
        rw [hw2, if_neg h2]) (left - (l.length : Int)) (by omega) (by omega)
    refine ⟨r, Ev.congr (f := fun k => laws_szEntryS.l0 k l (left - (l.length : Int)) 0) (fun k => ?_) hr, by omega, by omega⟩
    unfold laws_szEntryS.f
    rw [hw, if_neg hn]
end Go.Proofs.Ytblejbgkcgajgaa.Q
end

section
namespace Go.Proofs.Ytblejbgkcgajgaa.Q
open Go.RowKit Go.Proofs.YtblejbgkcgajgaaW.PrintWords Go.Proofs.YtblejbgkcgajgaaW.PrintLast
set_option linter.unusedVariables false
set_option linter.unusedSimpArgs false
theorem markEntryS_ev (l : List S55) (m : Int) (hl : l.length ≤ 1048576) (h0 : 0 ≤ m) (hm : m + 2 * l.length ≤ 900000000) :
    ∃ l', l'.length = l.length ∧ Ev (fun k => laws_markEntryS.f k l m) (m + 2 * l.length, l') ∧ Ev (fun k => laws_heldEntryS.f k l' m) (m + 2 * l.length) := by
  obtain ⟨mt, hmt⟩ := markTexts
  have rd0 : ∀ (l : List S55) (i : Nat) (h : i < l.length), rd_T55 l (i : Int) = l[i] := fun l i h => by simp [rd_T55, List.getD_eq_getElem?_getD, List.getElem?_eq_getElem h]
  have rd1 : ∀ (l : List S55) (i : Nat) (v : S55) (h : i < l.length), rd_T55 (l.set i v) (i : Int) = v := fun l i v h => by rw [rd0 _ _ (by rw [List.length_set]; exact h)]; simp
  refine ev_mark_loop (L := laws_markEntryS.l0) (H := laws_heldEntryS.l0) (mk := fun x m => ⟨mt (m), m + 1⟩) (c := 2) (by omega) ?_ ?_ ?_ ?_ l m hl h0 hm
  · intro l m i hi hl h0 hm r hr
    have c1 : (i : Int) < (l.length : Int) := by omega
    have w := wrap_i (show i < 4611686018427387904 by omega)
    have w1 : wrap64 (m + 1) = m + 1 := by unfold wrap64; omega
    have w2 : wrap64 (m + 1 + 1) = m + 2 := by unfold wrap64; omega
    refine Ev.succ (g := fun k => laws_markEntryS.l0 k l m (i : Int)) ?_
    simp only [laws_markEntryS.l0, c1, if_true, Int.natCast_nonneg, Option.bind_some, Int.toNat_natCast, rd0 l i hi, rd1 l i _ hi, List.set_set, w, w1, w2]
    refine Ev.bind (hmt (m) (by omega) (by omega)) ?_
    (try simp only [if_true, rd0 l i hi, rd1 l i _ hi, List.set_set, Option.bind_some, w1, w2, bne_self_eq_false, Bool.false_eq_true, if_false])
    exact hr
  · intro l m i hi y hy hl h0 hm r hr
    have c1 : (i : Int) < (l.length : Int) := by omega
    have w := wrap_i (show i < 4611686018427387904 by omega)
    have w1 : wrap64 (m + 1) = m + 1 := by unfold wrap64; omega
    have w2 : wrap64 (m + 1 + 1) = m + 2 := by unfold wrap64; omega
    refine Ev.succ (g := fun k => laws_heldEntryS.l0 k l m (i : Int)) ?_
    simp only [laws_heldEntryS.l0, c1, if_true, Int.natCast_nonneg, rd0 l i hi, hy, w, w1, w2, bne_self_eq_false, Bool.false_eq_true, if_false]
    refine Ev.bind (hmt (m) (by omega) (by omega)) ?_
    (try simp only [if_true, rd0 l i hi, rd1 l i _ hi, List.set_set, Option.bind_some, w1, w2, bne_self_eq_false, Bool.false_eq_true, if_false])
    exact hr
  · intro l m k
    simp only [laws_markEntryS.l0]
    rw [if_neg (by omega)]
  · intro l m k
    simp only [laws_heldEntryS.l0]
    rw [if_neg (by omega)]
end Go.Proofs.Ytblejbgkcgajgaa.Q
end

section
namespace Go.Proofs.Ytblejbgkcgajgaa.Q
open Go.RowKit Go.Proofs.YtblejbgkcgajgaaW.PrintWords Go.Proofs.YtblejbgkcgajgaaW.PrintLast
set_option linter.unusedVariables false
set_option linter.unusedSimpArgs false
theorem rdStr {l : List ByteArray} {i : Nat} (h : i < l.length) : rdOf ByteArray.empty l (i : Int) = l[i] := by
  simp [rdOf, List.getD_eq_getElem?_getD, List.getElem?_eq_getElem h]
theorem eqStringS_ev (l : List ByteArray) (hl : l.length ≤ 1048576) : Ev (fun k => laws_eqStringS.f k l l) true := by
  obtain ⟨b, hb, h⟩ := ev_same_loop (L := fun k i => laws_eqStringS.l0 k l l i) (xs := l) (ys := l) rfl (fun i h1 h2 e k => by
    have c1 : (i : Int) < (l.length : Int) := by omega
    simp only [laws_eqStringS.l0, rdStr h1, c1, Int.natCast_nonneg, if_true, wrap_i (show i < 4611686018427387904 by omega)]) (fun i h1 h2 e k => absurd rfl e) (fun k => by
    simp only [laws_eqStringS.l0]
    rw [if_neg (by omega)])
  obtain rfl : b = true := h.mpr rfl
  exact Ev.congr (f := fun k => laws_eqStringS.l0 k l l 0) (fun k => by unfold laws_eqStringS.f; rw [if_pos rfl]) hb
end Go.Proofs.Ytblejbgkcgajgaa.Q
end

section
namespace Go.Proofs.Ytblejbgkcgajgaa.Q
open Go.RowKit Go.Proofs.YtblejbgkcgajgaaW.PrintWords Go.Proofs.YtblejbgkcgajgaaW.PrintLast
set_option linter.unusedVariables false
set_option linter.unusedSimpArgs false
theorem markStringS_ev (l : List ByteArray) (m : Int) (hl : l.length ≤ 1048576) (h0 : 0 ≤ m) (hm : m + 1 * l.length ≤ 900000000) :
    ∃ l', l'.length = l.length ∧ Ev (fun k => laws_markStringS.f k l m) (m + 1 * l.length, l') ∧ Ev (fun k => laws_heldStringS.f k l' m) (m + 1 * l.length) := by
  obtain ⟨mt, hmt⟩ := markTexts
  refine ev_mark_loop (L := laws_markStringS.l0) (H := laws_heldStringS.l0) (mk := fun _ m => mt m) (c := 1) (by omega) ?_ ?_ ?_ ?_ l m hl h0 hm
  · intro l m i hi hl h0 hm r hr
    have c1 : (i : Int) < (l.length : Int) := by omega
    have w := wrap_i (show i < 4611686018427387904 by omega)
    have w1 : wrap64 (m + 1) = m + 1 := by unfold wrap64; omega
    refine Ev.succ (g := fun k => laws_markStringS.l0 k l m (i : Int)) ?_
    simp only [laws_markStringS.l0, c1, if_true, Int.natCast_nonneg, Int.toNat_natCast, w, w1]
    refine Ev.bind (hmt m (by omega) (by omega)) ?_
    exact hr
  · intro l m i hi y hy hl h0 hm r hr
    have c1 : (i : Int) < (l.length : Int) := by omega
    have w := wrap_i (show i < 4611686018427387904 by omega)
    have w1 : wrap64 (m + 1) = m + 1 := by unfold wrap64; omega
    refine Ev.succ (g := fun k => laws_heldStringS.l0 k l m (i : Int)) ?_
    simp only [laws_heldStringS.l0, c1, if_true, Int.natCast_nonneg, rdStr hi, hy, w, w1]
    refine Ev.bind (hmt m (by omega) (by omega)) ?_
    simp only [if_true]
    exact hr
  · intro l m k
    simp only [laws_markStringS.l0]
    rw [if_neg (by omega)]
  · intro l m k
    simp only [laws_heldStringS.l0]
    rw [if_neg (by omega)]
end Go.Proofs.Ytblejbgkcgajgaa.Q
end

section
namespace Go.Proofs.Ytblejbgkcgajgaa.Pure
open Go.RowKit Go.Proofs.Ytblejbgkcgajgaa.Q Go.Proofs.YtblejbgkcgajgaaW.PrintWords Go.Proofs.YtblejbgkcgajgaaW.PrintLast
set_option linter.unusedVariables false
set_option linter.unusedSimpArgs false
theorem edB_keys {m : List S62} (h : editsB m = true) : m.length ≤ 6 ∧ ∀ x, x ∈ m → x.f0.size ≤ 1000000 := by
  unfold editsB at h
  simp only [Bool.and_eq_true, decide_eq_true_eq, allR_iff] at h
  refine ⟨h.1, fun x hx => ?_⟩
  obtain ⟨i, hi, rfl⟩ := List.mem_iff_getElem.mp hx
  have h2 := h.2 i hi
  unfold edAt edB at h2
  rw [rdEdit hi] at h2
  simp only [Bool.and_eq_true] at h2
  have h3 : nameB m[i].f0 = true := by simp_all
  unfold nameB at h3
  simp only [Bool.and_eq_true, decide_eq_true_eq] at h3
  omega
theorem edit1_keys {l : List S55} {e : S62} (h : keysS l) (he : e.f0.size ≤ 1000000) : keysS (edit1 l e) := by
  intro x hx
  unfold edit1 at hx
  split at hx
  · unfold remL at hx
    rcases List.mem_append.mp hx with hx | hx
    · exact h x (List.mem_of_mem_take hx)
    · exact h x (List.mem_of_mem_drop hx)
  · unfold putL at hx
    rcases List.mem_append.mp hx with hx | hx
    · exact h x (List.mem_of_mem_take hx)
    · rcases List.mem_cons.mp hx with rfl | hx
      · exact he
      · exact h x (List.mem_of_mem_drop hx)
theorem edits_keys : ∀ (ed : List S62) {l : List S55}, keysS l → (∀ x, x ∈ ed → x.f0.size ≤ 1000000) → keysS (ed.foldl edit1 l)
  | [], _, h, _ => h
  | e :: ed, _, h, he => edits_keys ed (edit1_keys h (he e List.mem_cons_self)) (fun x hx => he x (List.mem_cons_of_mem _ hx))
theorem me_both (a : List S55) (b c : List S62) (ha : a.length ≤ 1048576) (hb : b.length ≤ 1048576) (hc : c.length ≤ 1048576) :
    ∃ m s e, Ev (fun k => spec_MergeEdits.f k a b c) (m, s, e) ∧ Ev (fun k => impl_MergeEdits.f k a b c) (m, s, e) ∧ m.length ≤ 1048576 ∧ s.length ≤ 1048576 := by
  unfold spec_MergeEdits.f impl_MergeEdits.f impl_Entry_49.f impl_Edit_50.f
  by_cases c1 : (a.length : Int) > 4096
  · have c1' : ¬ (a.length : Int) ≤ 4096 := by omega
    simp only [if_pos c1, decide_eq_false c1', Option.bind_some, Bool.false_eq_true, if_false]
    exact ⟨[], [], 2, Ev.at_ (c := 1) (fun k => by simp only [spec_MergeEdits.j0, if_true]), Ev.at_ (c := 1) (fun k => by simp only [impl_MergeEdits.j0, if_true]), by simp, by simp⟩
  have c1' : (a.length : Int) ≤ 4096 := by omega
  by_cases c2 : (b.length : Int) > 4096
  · have c2' : ¬ (b.length : Int) ≤ 4096 := by omega
    simp only [if_neg c1, if_pos c2, decide_eq_true c1', decide_eq_false c2', Option.bind_some, Bool.false_eq_true, if_false, if_true]
    exact ⟨[], [], 2, Ev.at_ (c := 1) (fun k => by simp only [spec_MergeEdits.j0, if_true]), Ev.at_ (c := 1) (fun k => by simp only [impl_MergeEdits.j0, if_true]), by simp, by simp⟩
  have c2' : (b.length : Int) ≤ 4096 := by omega
  by_cases c3 : (c.length : Int) > 4096
  · have c3' : ¬ (c.length : Int) ≤ 4096 := by omega
    simp only [if_neg c1, if_neg c2, decide_eq_true c3, decide_eq_true c1', decide_eq_true c2', decide_eq_false c3', Option.bind_some, if_true, Bool.not_false]
    exact ⟨[], [], 2, Ev.at_ (c := 1) (fun k => by simp only [spec_MergeEdits.j0, if_true]), Ev.at_ (c := 1) (fun k => by simp only [impl_MergeEdits.j0, if_true]), by simp, by simp⟩
  have c3' : (c.length : Int) ≤ 4096 := by omega
  simp only [if_neg c1, if_neg c2, decide_eq_false c3, decide_eq_true c1', decide_eq_true c2', decide_eq_true c3', Option.bind_some, if_true, Bool.not_true]
  have hS : ∀ r, Ev (fun k => spec_MergeEdits.j1 k a b c (!(mapB a && (editsB b && editsB c)))) r → Ev (fun k => spec_MergeEdits.j0 k a b c false) r := fun r h => by
    refine Ev.succ ?_
    simp only [spec_MergeEdits.j0, Bool.false_eq_true, if_false, spec_l01OK.f, spec_l01Edits.f, Option.bind_some]
    refine Ev.congr (fun k => ?_) h
    cases mapB a <;> cases editsB b <;> cases editsB c <;> rfl
  have hI : ∀ r, Ev (fun k => impl_MergeEdits.j1 k a b c (!(mapB a && (editsB b && editsB c)))) r → Ev (fun k => impl_MergeEdits.j0 k a b c false) r := fun r h => by
    refine Ev.succ ?_
    simp only [impl_MergeEdits.j0, Bool.false_eq_true, if_false]
    refine Ev.bind (mapOK_ev a (by omega)) ?_
    cases h1 : mapB a with
    | false => rw [h1, Bool.false_and, Bool.not_false] at h; simp only [Bool.false_eq_true, if_false]; exact h
    | true =>
      rw [h1, Bool.true_and] at h
      simp only [if_true]
      refine Ev.bind (editsOK_ev b hb) ?_
      cases h2 : editsB b with
      | false => rw [h2, Bool.false_and, Bool.not_false] at h; simp only [Bool.false_eq_true, if_false]; exact h
      | true =>
        rw [h2, Bool.true_and] at h
        simp only [if_true]
        exact Ev.bind (editsOK_ev c hc) h
  cases hq : (mapB a && (editsB b && editsB c)) with
  | false =>
    rw [hq] at hS hI
    exact ⟨[], [], 1, hS _ (Ev.at_ (c := 1) (fun k => by simp only [spec_MergeEdits.j1, Bool.not_false, if_true])), hI _ (Ev.at_ (c := 1) (fun k => by simp only [impl_MergeEdits.j1, Bool.not_false, if_true])), by simp, by simp⟩
  | true =>
    rw [hq] at hS hI
    simp only [Bool.and_eq_true] at hq
    obtain ⟨q1, q2, q3⟩ := hq
    have hri := mapB_rise q1
    have l1 := mapB_len q1
    obtain ⟨l2, k2⟩ := edB_keys q2
    obtain ⟨l3, k3⟩ := edB_keys q3
    have n2 := edits_len b a
    have n3 := edits_len c a
    have s1 := l01Apply_ev b hri (by omega)
    have s2 := l01Apply_ev c hri (by omega)
    have i1 := edited_ev b hri (by omega)
    have i2 := edited_ev c hri (by omega)
    have g1 := merge_spec hri (edits_rise b hri) (edits_rise c hri) (by omega)
    have g2 := merge_impl hri (edits_rise b hri) (edits_rise c hri) (by omega) (mapB_keys q1) (edits_keys b (mapB_keys q1) k2) (edits_keys c (mapB_keys q1) k3)
    have t1 := told_len (mergeM a (b.foldl edit1 a) (c.foldl edit1 a)) (mergeC a (b.foldl edit1 a) (c.foldl edit1 a))
    have t2 := mergeC_len a (b.foldl edit1 a) (c.foldl edit1 a)
    refine ⟨(told (mergeM a (b.foldl edit1 a) (c.foldl edit1 a)) (mergeC a (b.foldl edit1 a) (c.foldl edit1 a))).1, (told (mergeM a (b.foldl edit1 a) (c.foldl edit1 a)) (mergeC a (b.foldl edit1 a) (c.foldl edit1 a))).2.1, (told (mergeM a (b.foldl edit1 a) (c.foldl edit1 a)) (mergeC a (b.foldl edit1 a) (c.foldl edit1 a))).2.2, hS _ (Ev.succ ?_), hI _ (Ev.succ ?_), by omega, by omega⟩
    · simp only [spec_MergeEdits.j1, Bool.not_true, Bool.false_eq_true, if_false]
      refine Ev.bind s1 (Ev.bind s2 (Ev.bind g1 ?_))
      simp only [told_f, Option.bind_some]
      exact Ev.now _
    · simp only [impl_MergeEdits.j1, Bool.not_true, Bool.false_eq_true, if_false]
      exact Ev.bind i1 (Ev.bind i2 (Ev.bind g2 (Ev.now _)))
theorem FnExactMergeEdits : laws_FnExactMergeEdits.Pure := by
  intro l0 l1 l2 w0 w1 w2
  refine Ev.rounds ?_
  unfold laws_FnExactMergeEdits.f
  obtain ⟨r0, hr0, hrl0, hrs0⟩ := szEntryS_ev l0 w0.1 w0.2 1048576 (by omega) (by omega)
  refine Ev.bind hr0 ?_
  by_cases hn0 : r0 < 0
  · simp only [hn0, if_true]
    exact Ev.now _
  simp only [hn0, if_false]
  have hl0 := hrs0 (by omega)
  obtain ⟨r1, hr1, hrl1, hrs1⟩ := szEditS_ev l1 w1.1 w1.2 r0 (by omega) (by omega)
  refine Ev.bind hr1 ?_
  by_cases hn1 : r1 < 0
  · simp only [hn1, if_true]
    exact Ev.now _
  simp only [hn1, if_false]
  have hl1 := hrs1 (by omega)
  obtain ⟨r2, hr2, hrl2, hrs2⟩ := szEditS_ev l2 w2.1 w2.2 r1 (by omega) (by omega)
  refine Ev.bind hr2 ?_
  by_cases hn2 : r2 < 0
  · simp only [hn2, if_true]
    exact Ev.now _
  simp only [hn2, if_false]
  have hl2 := hrs2 (by omega)
  have ht0 := toEntryS_ev l0 hl0
  have hm0 : (l0.map cvEntry).length ≤ 1048576 := by simpa using hl0
  have ht1 := toEditS_ev l1 hl1
  have hm1 : (l1.map cvEdit).length ≤ 1048576 := by simpa using hl1
  have ht2 := toEditS_ev l2 hl2
  have hm2 : (l2.map cvEdit).length ≤ 1048576 := by simpa using hl2
  obtain ⟨res, str, code, hs, hi, hres, hstr⟩ := me_both (l0.map cvEntry) (l1.map cvEdit) (l2.map cvEdit) hm0 hm1 hm2
  have he := eqEntryS_ev res hres
  have hes := eqStringS_ev str hstr
  refine Ev.bind ht0 (Ev.bind ht1 (Ev.bind ht2 (Ev.bind hs (Ev.bind ht0 (Ev.bind ht1 (Ev.bind ht2 (Ev.bind hi (Ev.bind he ?_))))))))
  simp only [if_true]
  refine Ev.bind hes ?_
  simp only [if_true, bne_self_eq_false]
  refine Ev.succ ?_
  simp only [laws_FnExactMergeEdits.j0, Bool.false_eq_true, if_false]
  refine Ev.bind ht0 (Ev.bind (eqEntryS_ev _ hm0) ?_)
  simp only [if_true]
  refine Ev.bind ht1 (Ev.bind (eqEditS_ev _ hm1) ?_)
  simp only [if_true]
  refine Ev.bind ht2 (Ev.bind (eqEditS_ev _ hm2) ?_)
  simp only [if_true]
  obtain ⟨la0, _, hma0, _⟩ := markEntryS_ev (l0.map cvEntry) (1) hm0 (by omega) (by omega)
  refine Ev.bind hma0 ?_
  simp only []
  obtain ⟨la1, _, hma1, _⟩ := markEditS_ev (l1.map cvEdit) (1 + 2 * ((l0.map cvEntry).length : Int)) hm1 (by omega) (by omega)
  refine Ev.bind hma1 ?_
  simp only []
  obtain ⟨la2, _, hma2, _⟩ := markEditS_ev (l2.map cvEdit) (1 + 2 * ((l0.map cvEntry).length : Int) + 3 * ((l1.map cvEdit).length : Int)) hm2 (by omega) (by omega)
  refine Ev.bind hma2 ?_
  have n1 : ¬ (1 + 2 * ((l0.map cvEntry).length : Int) + 3 * ((l1.map cvEdit).length : Int) + 3 * ((l2.map cvEdit).length : Int) < 0) := by omega
  simp only [n1, if_false]
  refine Ev.bind he ?_
  simp only [if_true]
  refine Ev.bind hes ?_
  simp only [if_true, bne_self_eq_false]
  refine Ev.succ ?_
  simp only [laws_FnExactMergeEdits.j1, Bool.false_eq_true, if_false]
  obtain ⟨lr, _, hmR, hhR⟩ := markEntryS_ev res 1 hres (by omega) (by omega)
  obtain ⟨ls, _, hmS, hhS⟩ := markStringS_ev str (1 + 2 * (res.length : Int)) hstr (by omega) (by omega)
  have n2 : ¬ (1 + 2 * (res.length : Int) < 0) := by omega
  have n3 : ¬ (1 + 2 * (res.length : Int) + 1 * (str.length : Int) < 0) := by omega
  refine Ev.bind hmR (Ev.bind hmS (Ev.bind hhR ?_))
  simp only [n2, if_false]
  refine Ev.bind hhS ?_
  simp only [n3, if_false, if_true]
  refine Ev.bind ht0 (Ev.bind ht1 (Ev.bind ht2 (Ev.bind hi (Ev.bind he ?_))))
  simp only [if_true]
  refine Ev.bind hes ?_
  simp only [if_true, bne_self_eq_false]
  refine Ev.succ ?_
  simp only [laws_FnExactMergeEdits.j2, Bool.false_eq_true, if_false]
  refine Ev.bind hhR ?_
  simp only [n2, if_false]
  refine Ev.bind hhS ?_
  simp only [n3, if_false, if_true]
  exact Ev.now _
end Go.Proofs.Ytblejbgkcgajgaa.Pure
end
