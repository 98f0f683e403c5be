/- Parts of the proof of the law FnExactSnapOK, joined into one text. -/
import Derived.Test.YtekoaaiemmblgaaMFnExactSnapOK2
section
namespace Go.Proofs.Ytekoaaiemmblgaa.Q
open Go.RowKit Go.Proofs.YtekoaaiemmblgaaW.PrintWords Go.Proofs.YtekoaaiemmblgaaW.PrintLast Go.Proofs.YtekoaaiemmblgaaW.PrintMore
attribute [local go_sem] max2_int min2_int max_two min_two max_three min_three max_four min_four   -- for this text's walks alone
set_option linter.unusedVariables false
set_option linter.unusedSimpArgs false
attribute [local go_sem] bin_leq bin_gtr bin_geq
set_option maxHeartbeats 2000000 in
set_option maxRecDepth 100000 in
theorem hasF_int (g : Nat) (lb : Array Value) (eg : ∀ args w, (callFunc g args).run Try.prog w = .ok (.enter g args) w) (p : Int → Bool) (A0 : Option Addr) (c0 : Nat) (l0 : List Int) (w : World) (hr0 : Kd.C (Kd.int .i64) w A0 l0.length l0) (hc0 : l0.length ≤ c0) (hp : Asks_int g lb p w l0) :
    Calls Try.prog 135 #[.slice A0 l0.length c0, .func (.func g) #[] lb] w fun e w' => e = .returned (.bool (decide (0 ≤ idxI p l0))) ∧ Below w.heap.size w w' := by
  have HR0 := Aside0.mk hr0
  have HC0 := Aside0.mk hc0
  have HP := Aside0.mk hp
  have HE := Aside0.mk eg
  clear hr0 hc0 hp eg
  go_enter Try.func135, Try.ntmps135
  go_wp2_with (refine (idxF_int g lb HE.out p A0 c0 l0 _ HR0.out HC0.out HP.out).mono ?_; rintro e w' ⟨rfl, hb⟩)
  go_ret
  exact ⟨rfl, hb⟩
theorem notF_int (g : Nat) (lb : Array Value) (eg : ∀ args w, (callFunc g args).run Try.prog w = .ok (.enter g args) w) (p : Int → Bool) (l : List Int) (w : World) (B : Nat) (hB : B < w.heap.size) (hc : w.cell? ⟨B, 0, none⟩ = some (.func (.func g) #[] lb)) (hp : Asks_int g lb p w l) :
    Asks_int 136 #[.pointer (some ⟨B, 0, none⟩)] (fun x => !p x) w l := by
  intro W x hW hx
  have hc' : W.cell? ⟨B, 0, none⟩ = some (.func (.func g) #[] lb) := (hW.cell (p := ⟨B, 0, none⟩) hB).trans hc
  have hB' : B < W.heap.size := Nat.lt_of_lt_of_le hB hW.size
  have HC := Aside0.mk (hp W x hW hx)
  clear hp hx hc
  go_enter Try.func136, Try.ntmps136
  go_wp2_with (refine HC.out.mono ?_; rintro e w' ⟨rfl, hb⟩)
  go_ret
  exact ⟨rfl, hb⟩
set_option maxHeartbeats 2000000 in
set_option maxRecDepth 100000 in
theorem allF_int (g : Nat) (lb : Array Value) (eg : ∀ args w, (callFunc g args).run Try.prog w = .ok (.enter g args) w) (p : Int → Bool) (A0 : Option Addr) (c0 : Nat) (l0 : List Int) (w : World) (hr0 : Kd.C (Kd.int .i64) w A0 l0.length l0) (hc0 : l0.length ≤ c0) (hp : Asks_int g lb p w l0) :
    Calls Try.prog 120 #[.slice A0 l0.length c0, .func (.func g) #[] lb] w fun e w' => e = .returned (.bool (l0.all p)) ∧ Below w.heap.size w w' := by
  have e94 := idxI_all p l0
  have HN := Aside0.mk e94
  have HB0 : Below w.heap.size w (w.alloc (.cells #[.func (.func g) #[] lb] 123)) := (Below.refl _ _).alloc (Nat.le_refl _) _
  have HR0 := Aside0.mk (Kd.C_below hr0 HB0)
  have HP := Aside0.mk (notF_int g lb eg p l0 (w.alloc (.cells #[.func (.func g) #[] lb] 123)) w.heap.size (by simp) (by simp) (fun W x hW hx => hp W x (below_then HB0 HB0.size hW) hx))
  have HC0 := Aside0.mk hc0
  have HBA := Aside0.mk HB0
  clear hr0 hc0 hp eg e94 HB0
  go_enter Try.func120, Try.ntmps120
  go_wp2_with (refine (hasF_int 136 #[.pointer (some ⟨w.heap.size, 0, none⟩)] (enters_ Try.func136 (by kernel_rfl) rfl) (fun x => !p x) A0 c0 l0 _ HR0.out HC0.out HP.out).mono ?_; rintro e w' ⟨rfl, hb⟩)
  go_ret
  refine ⟨?_, below_then HBA.out HBA.out.size hb⟩
  show Ending.returned (.bool (!decide (0 ≤ idxI (fun x => !p x) l0))) = _
  rw [HN.out]
end Go.Proofs.Ytekoaaiemmblgaa.Q
end

section
namespace Go.Proofs.Ytekoaaiemmblgaa.Q
open Go.RowKit Go.Proofs.YtekoaaiemmblgaaW.PrintWords Go.Proofs.YtekoaaiemmblgaaW.PrintLast Go.Proofs.YtekoaaiemmblgaaW.PrintMore
attribute [local go_sem] max2_int min2_int max_two min_two max_three min_three max_four min_four   -- for this text's walks alone
set_option linter.unusedVariables false
set_option linter.unusedSimpArgs false
attribute [local go_sem] bin_leq bin_gtr bin_geq
def areAllint_isAt.f (l0 : List Int) (a1 : Int) : Option (Bool) := if -9223372036854775807 ≤ a1 then (if a1 ≤ 9223372036854775807 then some (l0.all (fun x => inB x 1 (a1 - 1))) else none) else none
theorem within_f (a b c : Int) : impl_within.f a b c = some (inB a b c) := by
  unfold impl_within.f inB
  by_cases h : b ≤ a <;> simp [h]
theorem isAt_asks (a1 : Int) (h0 : -9223372036854775807 ≤ a1) (h1 : a1 ≤ 9223372036854775807) (B : Nat) (l : List Int) (w : World) (hB : B < w.heap.size) (hc : w.cell? ⟨B, 0, none⟩ = some (.int .i64 a1)) :
    Asks_int 137 #[.pointer (some ⟨B, 0, none⟩)] (fun x => inB x 1 (a1 - 1)) w l := by
  intro W x hW hx
  have hc' : W.cell? ⟨B, 0, none⟩ = some (.int .i64 a1) := (hW.cell (p := ⟨B, 0, none⟩) hB).trans hc
  have A2 := Aside0.mk (within_f x 1 (a1 - 1))
  clear hx hW hc hB
  go_enter Try.func137, Try.ntmps137
  go_wp2_with (go_at_call 80; (with_reducible refine (impl_within.calls _ _ _ _ _ A2.out).mono ?_); rintro e w' ⟨rfl, ⟨n, rfl⟩⟩)
  go_ret
  exact ⟨rfl, by repeat (first | exact Below.refl _ _ | apply pw_below_drewN)⟩
theorem areAllint_isAt.calls (A0 : Option Addr) (c0 : Nat) (l0 : List Int) (a1 : Int) {B : Nat} (r : Bool) (w : World) (hr0 : Kd.C (Kd.int .i64) w A0 l0.length l0) (hc0 : l0.length ≤ c0) (hk : w.heap[B]? = some (.cells #[.int .i64 a1] 3 (0, 0))) (h : areAllint_isAt.f l0 a1 = some r) :
    Calls Try.prog 120 #[.slice A0 l0.length c0, .func (.func 137) #[] #[.pointer (some ⟨B, 0, none⟩)]] w fun e w' => e = .returned (.bool r) ∧ Below w.heap.size w w' := by
  unfold areAllint_isAt.f at h
  by_cases h0 : -9223372036854775807 ≤ a1
  · rw [if_pos h0] at h
    by_cases h1 : a1 ≤ 9223372036854775807
    · rw [if_pos h1] at h
      obtain rfl := Option.some.inj h
      exact allF_int 137 #[.pointer (some ⟨B, 0, none⟩)] (enters_ Try.func137 (by kernel_rfl) rfl) _ A0 c0 l0 w hr0 hc0 (isAt_asks a1 h0 h1 B l0 w (blk_lt hk) ((blk_cell hk 0).trans rfl))
    · rw [if_neg h1] at h
      cases h
  · rw [if_neg h0] at h
    cases h
end Go.Proofs.Ytekoaaiemmblgaa.Q
end

section
namespace Go.Proofs.Ytekoaaiemmblgaa.Q
open Go.RowKit Go.Proofs.YtekoaaiemmblgaaW.PrintWords Go.Proofs.YtekoaaiemmblgaaW.PrintLast Go.Proofs.YtekoaaiemmblgaaW.PrintMore
attribute [local go_sem] max2_int min2_int max_two min_two max_three min_three max_four min_four   -- for this text's walks alone
set_option linter.unusedVariables false
set_option linter.unusedSimpArgs false
attribute [local go_sem] bin_leq bin_gtr bin_geq
def impl_Commit_isAt.f (k : Nat) (l0_0 : List Int) (l0_1 : List (S87)) (a1 : Int) : Option (Bool) := (impl_MapOK.f k l0_1).bind fun t182 => (if t182 = true then (if (l0_0.length : Int) > 2 then (some false) else (if (((l0_0.length : Int) == 0) != (a1 == 1)) = true then (some false) else (if (l0_0.length : Int) = 2 then (if 0 < (l0_0.length : Int) then (if 1 < (l0_0.length : Int) then (if (rd l0_0 0) = (rd l0_0 1) then (some false) else ((areAllint_isAt.f l0_0 a1).bind fun t185 => (some t185))) else (none)) else (none)) else ((areAllint_isAt.f l0_0 a1).bind fun t186 => (some t186))))) else (some false))
def impl_Commit_isAt.T2 : Bool × List (List Nat × List Nat) := (true, [([], []), ([0], [0]), ([1], [1]), ([2], [2]), ([3, 2], [3]), ([4], [4]), ([5, 4], [4, 5]), ([4, 6], [4, 6]), ([7, 4], [7]), ([8], [8]), ([9, 8], [8, 9]), ([8], [8]), ([11, 8], [8, 11]), ([10, 12, 8], [8, 10, 12]), ([8, 13], [8, 13]), ([14, 8], [14]), ([15], [15]), ([16, 15], [15, 16]), ([17, 15, 15], [15, 17]), ([18], [18]), ([19, 18], [18, 19]), ([20, 18], [18, 20]), ([21, 18], [18, 21]), ([18], [18]), ([23, 18], [18, 23]), ([24, 18], [18, 24]), ([25, 18], [18, 25]), ([22, 26, 18], [18, 22, 26]), ([18, 27, 15], [15, 18, 27]), ([15, 28], [15, 28])])
def impl_Commit_isAt.B2 : List Nat := [0, 1, 3, 7, 15, 31, 63, 127, 255, 511, 1023, 511, 2559, 8191, 16383, 32767, 65535, 131071, 262143, 524287, 1048575, 2097151, 4194303, 524287, 8912895, 25690111, 59244543, 134217727, 268435455, 536870911]
theorem impl_Commit_isAt.tab2 : rtab .any (opsOf Try.f124 2) = impl_Commit_isAt.T2 := by kernel_rfl
theorem impl_Commit_isAt.bits2 : waitsOk impl_Commit_isAt.T2.2 impl_Commit_isAt.B2 = true := by kernel_rfl
set_option maxHeartbeats 8000000 in
set_option maxRecDepth 100000 in
theorem impl_Commit_isAt.calls (k : Nat) (A0_0 : Option Addr) (c0_0 : Nat) (l0_0 : List Int) (A0_1 : Option Addr) (c0_1 : Nat) (l0_1 : List (S87)) (a1 : Int) (r : Bool) (w : World) (hr0_0 : Kd.C (Kd.int .i64) w A0_0 l0_0.length l0_0) (hc0_0 : l0_0.length ≤ c0_0) (hr0_1 : Kd.C k87 w A0_1 l0_1.length l0_1) (hc0_1 : l0_1.length ≤ c0_1) (h : impl_Commit_isAt.f k l0_0 l0_1 a1 = some r) :
  Calls Try.prog 124 #[.agg #[.slice A0_0 l0_0.length c0_0, .slice A0_1 l0_1.length c0_1], .int .i64 a1] w fun e w' => e = .returned (.bool r) ∧ Below w.heap.size w w' := by
 have hu78 := Try.underlying78
 have HR0_0 := Aside0.mk hr0_0
 have HC0_0 := Aside0.mk hc0_0
 clear hr0_0 hc0_0
 have HR0_1 := Aside0.mk hr0_1
 have HC0_1 := Aside0.mk hc0_1
 clear hr0_1 hc0_1
 have HB := Aside0.mk (Below.refl w.heap.size w)
 have H : ((impl_MapOK.f k l0_1).bind fun t182 => (if t182 = true then (if (l0_0.length : Int) > 2 then (some false) else (if (((l0_0.length : Int) == 0) != (a1 == 1)) = true then (some false) else (if (l0_0.length : Int) = 2 then (if 0 < (l0_0.length : Int) then (if 1 < (l0_0.length : Int) then (if (rd l0_0 0) = (rd l0_0 1) then (some false) else ((areAllint_isAt.f l0_0 a1).bind fun t185 => (some t185))) else (none)) else (none)) else ((areAllint_isAt.f l0_0 a1).bind fun t186 => (some t186))))) else (some false))) = some r := h
 clear h
 replace H := Option.bind_eq_some_iff.mp H
 obtain ⟨t182, A30, H⟩ := H
 replace H : (if t182 = true then (if (l0_0.length : Int) > 2 then (some false) else (if (((l0_0.length : Int) == 0) != (a1 == 1)) = true then (some false) else (if (l0_0.length : Int) = 2 then (if 0 < (l0_0.length : Int) then (if 1 < (l0_0.length : Int) then (if (rd l0_0 0) = (rd l0_0 1) then (some false) else ((areAllint_isAt.f l0_0 a1).bind fun t185 => (some t185))) else (none)) else (none)) else ((areAllint_isAt.f l0_0 a1).bind fun t186 => (some t186))))) else (some false)) = some r := H
 have A3 := Aside0.mk A30
 clear A30
 by_cases c4 : t182 = true
 ·subst c4
  have H1 : (if (l0_0.length : Int) > 2 then (some false) else (if (((l0_0.length : Int) == 0) != (a1 == 1)) = true then (some false) else (if (l0_0.length : Int) = 2 then (if 0 < (l0_0.length : Int) then (if 1 < (l0_0.length : Int) then (if (rd l0_0 0) = (rd l0_0 1) then (some false) else ((areAllint_isAt.f l0_0 a1).bind fun t185 => (some t185))) else (none)) else (none)) else ((areAllint_isAt.f l0_0 a1).bind fun t186 => (some t186))))) = some r := by rw [if_pos rfl] at H; exact H
  clear H
  have H := H1
  clear H1
  by_cases c5 : (l0_0.length : Int) > 2
  ·rw [if_pos c5] at H
   have c5b0 : decide (2 < (l0_0.length : Int)) = true := decide_eq_true c5
   have c5b1 : decide (2 < l0_0.length) = true := decide_eq_true (by omega)
   clear c5
   obtain rfl := Option.some.inj H
   go_enter Try.func124, Try.ntmps124
   try go_wp2_with (first | ((with_reducible refine gate_dst (N := 2) rfl ?_); refine bE (N := 2) (cs := #[.slice A0_0 l0_0.length c0_0, .slice A0_1 l0_1.length c0_1]) (t := 78) ?_; intro gb180 hg w6 hbox hb; have n0_ := Aside0.mk (below_step (w := w) bW hb); have n1_ := Aside0.mk (hbox); have n2_ := Aside0.mk (gS (w := w) hg); have n3_ := n2_; clear HB; have HB := n0_; have BK180 := n1_; have GW180 := n2_; have GE180 := n3_; clear n0_ n1_ n2_ n3_; clear hb hbox hg) | ((with_reducible refine gate_dst (N := 3) rfl ?_); refine bE (N := 3) (cs := #[.int .i64 a1]) (t := 3) ?_; intro gb181 hg w7 hbox hb; have n0_ := Aside0.mk (kb BK180 hb); have n1_ := Aside0.mk (below_step (w := w) bW hb); have n2_ := Aside0.mk (hbox); have n3_ := Aside0.mk (gS (w := w) hg); have n4_ := n3_; have n5_ := Aside0.mk (nL BK180 hg); have n6_ := Aside0.mk (nG BK180 hg); clear BK180; clear HB; have BK180 := n0_; have HB := n1_; have BK181 := n2_; have GW181 := n3_; have GE181 := n4_; have NB180_181 := n5_; have NB181_180 := n6_; clear n0_ n1_ n2_ n3_ n4_ n5_ n6_; clear hb hbox hg; have hnb8 := NB180_181.out; have hnc8 := NB181_180.out; obtain ⟨hcz9_0, hcz9_1⟩ := cz2 BK180; obtain ⟨hfz9_0, hfz9_1⟩ := fz2 BK180))
   have n0_ := Aside0.mk (blk_drew BK180.out)
   have n1_ := Aside0.mk (blk_drew BK181.out)
   have n2_ := Aside0.mk (below_drew1 HB.out)
   clear BK180
   clear BK181
   clear HB
   have BK180 := n0_
   have BK181 := n1_
   have HB := n2_
   clear n0_ n1_ n2_
   refine start_ (n := 30) (S := fun w' => w'.cell? ⟨gb180, 0, none⟩ = some (.slice A0_0 l0_0.length c0_0) ∧ w'.cell? ⟨gb180, 1, none⟩ = some (.slice A0_1 l0_1.length c0_1)) (ds := []) #[false, false, false, false, false, false, false, false, false, false, false, false, false, false, false, false, false, false, false, false, false, false, false, false, false, false, false, false, false, false] (by kernel_rfl) rfl rfl ⟨(blk_cell BK180.out 0).trans rfl, (blk_cell BK180.out 1).trans rfl⟩ (fun hHeld => ?_); refine with_tabW impl_Commit_isAt.tab2 impl_Commit_isAt.bits2 (fun HT_ HW_ => ?_)
   generalize w7.drew = w10 at BK180 BK181 HB hHeld ⊢
   refine pure_ (i := 0) (N := some 9) (v := ?_) (a' := ?_) #[true, false, false, false, false, false, false, false, false, false, false, false, false, false, false, false, false, false, false, false, false, false, false, false, false, false, false, false, false, false] rfl rfl (any_of HT_.out (by kernel_rfl)) (fun _ _ _ h => h) (Or.inl ⟨by rfl, ?_⟩) ?_ ?_
   rotate_left
   ·intro w'
    go_simp
    with_reducible rfl
   rotate_left
   ·simp only [Act.put, List.setIfInBounds_toArray, List.set_cons_zero, List.set_cons_succ, i64_w, i32_w]
    rfl
   refine take_ (i := 1) (N := some 10) (v := ?_) (a' := ?_) #[true, true, false, false, false, false, false, false, false, false, false, false, false, false, false, false, false, false, false, false, false, false, false, false, false, false, false, false, false, false] rfl rfl (take_ofW HT_.out HW_.out (by kernel_rfl)) (fun _ _ _ h => h) (Or.inl ⟨by rfl, ?_⟩) hHeld ?_ ?_
   rotate_left
   ·rintro w' ⟨s0, s1⟩
    go_simp
    with_reducible rfl
   rotate_left
   ·simp only [Act.put, List.setIfInBounds_toArray, List.set_cons_zero, List.set_cons_succ, i64_w, i32_w]
    rfl
   refine one_ (i := 2) (N := some 11) #[true, true, true, false, false, false, false, false, false, false, false, false, false, false, false, false, false, false, false, false, false, false, false, false, false, false, false, false, false, false] rfl rfl (one_of HT_.out (by kernel_rfl)) (by decide) (fun K hK => ?_)
   refine goes_ Try.func104 (by kernel_rfl) rfl #[.slice A0_1 l0_1.length c0_1] (by rfl) rfl rfl gA ?_
   with_reducible refine (impl_MapOK.calls k _ _ l0_1 true _ ?side1 ?side2 A3.out).mono ?_
   (case side1 => exact cB HR0_1)
   (case side2 => exact HC0_1.out)
   rintro e w11 ⟨rfl, hb⟩
   refine ⟨_, rfl, ?_⟩
   have n0_ := Aside0.mk (kb BK180 hb)
   have n1_ := Aside0.mk (kb BK181 hb)
   have n2_ := Aside0.mk (below_step (w := w) bW hb)
   clear BK180
   clear BK181
   clear HB
   have BK180 := n0_
   have BK181 := n1_
   have HB := n2_
   clear n0_ n1_ n2_
   (try clear hb)
   (try clear hb2)
   (try clear hk)
   (try clear hi)
   refine hK.out _ _ ⟨(blk_cell BK180.out 0).trans rfl, (blk_cell BK180.out 1).trans rfl⟩ (fun hHeld => ?_)
   clear hK K
   refine norm_ (a' := ?_) ?_ ?_
   rotate_left
   ·show Act.put _ (some 11) _ = _
    simp only [Act.put, List.setIfInBounds_toArray, List.set_cons_zero, List.set_cons_succ, i64_w, i32_w]
    rfl
   refine pure_ (i := 3) (N := some 12) (v := ?_) (a' := ?_) #[true, true, true, true, false, false, false, false, false, false, false, false, false, false, false, false, false, false, false, false, false, false, false, false, false, false, false, false, false, false] rfl rfl (any_of HT_.out (by kernel_rfl)) (fun _ _ _ h => h) (Or.inl ⟨by rfl, ?_⟩) ?_ ?_
   rotate_left
   ·intro w'
    go_simp
    with_reducible rfl
   rotate_left
   ·simp only [Act.put, List.setIfInBounds_toArray, List.set_cons_zero, List.set_cons_succ, i64_w, i32_w]
    rfl
   refine pure_ (i := 4) (N := some 13) (v := ?_) (a' := ?_) #[true, true, true, true, true, false, false, false, false, false, false, false, false, false, false, false, false, false, false, false, false, false, false, false, false, false, false, false, false, false] rfl rfl (any_of HT_.out (by kernel_rfl)) (fun _ _ _ h => h) (Or.inl ⟨by rfl, ?_⟩) ?_ ?_
   rotate_left
   ·intro w'
    go_simp
    with_reducible rfl
   rotate_left
   ·simp only [Act.put, List.setIfInBounds_toArray, List.set_cons_zero, List.set_cons_succ, i64_w, i32_w]
    rfl
   refine pure_ (i := 5) (N := some 14) (v := ?_) (a' := ?_) #[true, true, true, true, true, true, false, false, false, false, false, false, false, false, false, false, false, false, false, false, false, false, false, false, false, false, false, false, false, false] rfl rfl (any_of HT_.out (by kernel_rfl)) (fun _ _ _ h => h) (Or.inl ⟨by rfl, ?_⟩) ?_ ?_
   rotate_left
   ·intro w'
    go_simp
    with_reducible rfl
   rotate_left
   ·simp only [Act.put, List.setIfInBounds_toArray, List.set_cons_zero, List.set_cons_succ, i64_w, i32_w]
    rfl
   refine pure_ (i := 6) (N := some 15) (v := ?_) (a' := ?_) #[true, true, true, true, true, true, true, false, false, false, false, false, false, false, false, false, false, false, false, false, false, false, false, false, false, false, false, false, false, false] rfl rfl (any_of HT_.out (by kernel_rfl)) (fun _ _ _ h => h) (Or.inl ⟨by rfl, ?_⟩) ?_ ?_
   rotate_left
   ·intro w'
    go_simp
    with_reducible rfl
   rotate_left
   ·simp only [Act.put, List.setIfInBounds_toArray, List.set_cons_zero, List.set_cons_succ, i64_w, i32_w]
    rfl
   refine pure_ (i := 7) (N := some 16) (v := ?_) (a' := ?_) #[true, true, true, true, true, true, true, true, false, false, false, false, false, false, false, false, false, false, false, false, false, false, false, false, false, false, false, false, false, false] rfl rfl (any_of HT_.out (by kernel_rfl)) (fun _ _ _ h => h) (Or.inl ⟨by rfl, ?_⟩) ?_ ?_
   rotate_left
   ·intro w'
    go_simp
    with_reducible rfl
   rotate_left
   ·simp only [Act.put, List.setIfInBounds_toArray, List.set_cons_zero, List.set_cons_succ, i64_w, i32_w]
    rfl
   refine pure_ (i := 8) (N := some 17) (v := ?_) (a' := ?_) #[true, true, true, true, true, true, true, true, true, false, false, false, false, false, false, false, false, false, false, false, false, false, false, false, false, false, false, false, false, false] rfl rfl (any_of HT_.out (by kernel_rfl)) (fun _ _ _ h => h) (Or.inl ⟨by rfl, ?_⟩) ?_ ?_
   rotate_left
   ·intro w'
    go_simp
    with_reducible rfl
   rotate_left
   ·simp only [Act.put, List.setIfInBounds_toArray, List.set_cons_zero, List.set_cons_succ, i64_w, i32_w]
    rfl
   refine pure_ (i := 9) (N := some 18) (v := undef) (a' := ?_) #[true, true, true, true, true, true, true, true, true, true, false, false, false, false, false, false, false, false, false, false, false, false, false, false, false, false, false, false, false, false] rfl rfl (any_of HT_.out (by kernel_rfl)) (fun _ _ _ h => h) (Or.inr ⟨by rfl, rfl⟩) ?_ ?_
   rotate_left
   ·simp only [Act.put, List.setIfInBounds_toArray, List.set_cons_zero, List.set_cons_succ, i64_w, i32_w]
    rfl
   refine pure_ (i := 10) (N := some 19) (v := undef) (a' := ?_) #[true, true, true, true, true, true, true, true, true, true, true, false, false, false, false, false, false, false, false, false, false, false, false, false, false, false, false, false, false, false] rfl rfl (any_of HT_.out (by kernel_rfl)) (fun _ _ _ h => h) (Or.inr ⟨by rfl, rfl⟩) ?_ ?_
   rotate_left
   ·simp only [Act.put, List.setIfInBounds_toArray, List.set_cons_zero, List.set_cons_succ, i64_w, i32_w]
    rfl
   refine pure_ (i := 11) (N := some 20) (v := undef) (a' := ?_) #[true, true, true, true, true, true, true, true, true, true, true, true, false, false, false, false, false, false, false, false, false, false, false, false, false, false, false, false, false, false] rfl rfl (any_of HT_.out (by kernel_rfl)) (fun _ _ _ h => h) (Or.inr ⟨by rfl, rfl⟩) ?_ ?_
   rotate_left
   ·simp only [Act.put, List.setIfInBounds_toArray, List.set_cons_zero, List.set_cons_succ, i64_w, i32_w]
    rfl
   refine pure_ (i := 12) (N := some 21) (v := undef) (a' := ?_) #[true, true, true, true, true, true, true, true, true, true, true, true, true, false, false, false, false, false, false, false, false, false, false, false, false, false, false, false, false, false] rfl rfl (any_of HT_.out (by kernel_rfl)) (fun _ _ _ h => h) (Or.inr ⟨by rfl, rfl⟩) ?_ ?_
   rotate_left
   ·simp only [Act.put, List.setIfInBounds_toArray, List.set_cons_zero, List.set_cons_succ, i64_w, i32_w]
    rfl
   refine pure_ (i := 13) (N := some 22) (v := undef) (a' := ?_) #[true, true, true, true, true, true, true, true, true, true, true, true, true, true, false, false, false, false, false, false, false, false, false, false, false, false, false, false, false, false] rfl rfl (any_of HT_.out (by kernel_rfl)) (fun _ _ _ h => h) (Or.inr ⟨by rfl, rfl⟩) ?_ ?_
   rotate_left
   ·simp only [Act.put, List.setIfInBounds_toArray, List.set_cons_zero, List.set_cons_succ, i64_w, i32_w]
    rfl
   refine pure_ (i := 14) (N := some 23) (v := ?_) (a' := ?_) #[true, true, true, true, true, true, true, true, true, true, true, true, true, true, true, false, false, false, false, false, false, false, false, false, false, false, false, false, false, false] rfl rfl (any_of HT_.out (by kernel_rfl)) (fun _ _ _ h => h) (Or.inl ⟨by rfl, ?_⟩) ?_ ?_
   rotate_left
   ·intro w'
    go_simp
    with_reducible rfl
   rotate_left
   ·simp only [Act.put, List.setIfInBounds_toArray, List.set_cons_zero, List.set_cons_succ, i64_w, i32_w]
    rfl
   refine pure_ (i := 15) (N := some 24) (v := ?_) (a' := ?_) #[true, true, true, true, true, true, true, true, true, true, true, true, true, true, true, true, false, false, false, false, false, false, false, false, false, false, false, false, false, false] rfl rfl (any_of HT_.out (by kernel_rfl)) (fun _ _ _ h => h) (Or.inl ⟨by rfl, ?_⟩) ?_ ?_
   rotate_left
   ·intro w'
    go_simp
    with_reducible rfl
   rotate_left
   ·simp only [Act.put, List.setIfInBounds_toArray, List.set_cons_zero, List.set_cons_succ, i64_w, i32_w]
    rfl
   refine pure_ (i := 16) (N := some 25) (v := undef) (a' := ?_) #[true, true, true, true, true, true, true, true, true, true, true, true, true, true, true, true, true, false, false, false, false, false, false, false, false, false, false, false, false, false] rfl rfl (any_of HT_.out (by kernel_rfl)) (fun _ _ _ h => h) (Or.inr ⟨by rfl, rfl⟩) ?_ ?_
   rotate_left
   ·simp only [Act.put, List.setIfInBounds_toArray, List.set_cons_zero, List.set_cons_succ, i64_w, i32_w]
    rfl
   refine pure_ (i := 17) (N := some 26) (v := undef) (a' := ?_) #[true, true, true, true, true, true, true, true, true, true, true, true, true, true, true, true, true, true, false, false, false, false, false, false, false, false, false, false, false, false] rfl rfl (any_of HT_.out (by kernel_rfl)) (fun _ _ _ h => h) (Or.inr ⟨by rfl, rfl⟩) ?_ ?_
   rotate_left
   ·simp only [Act.put, List.setIfInBounds_toArray, List.set_cons_zero, List.set_cons_succ, i64_w, i32_w]
    rfl
   refine pure_ (i := 18) (N := some 27) (v := undef) (a' := ?_) #[true, true, true, true, true, true, true, true, true, true, true, true, true, true, true, true, true, true, true, false, false, false, false, false, false, false, false, false, false, false] rfl rfl (any_of HT_.out (by kernel_rfl)) (fun _ _ _ h => h) (Or.inr ⟨by rfl, rfl⟩) ?_ ?_
   rotate_left
   ·simp only [Act.put, List.setIfInBounds_toArray, List.set_cons_zero, List.set_cons_succ, i64_w, i32_w]
    rfl
   refine pure_ (i := 19) (N := some 28) (v := undef) (a' := ?_) #[true, true, true, true, true, true, true, true, true, true, true, true, true, true, true, true, true, true, true, true, false, false, false, false, false, false, false, false, false, false] rfl rfl (any_of HT_.out (by kernel_rfl)) (fun _ _ _ h => h) (Or.inr ⟨by rfl, rfl⟩) ?_ ?_
   rotate_left
   ·simp only [Act.put, List.setIfInBounds_toArray, List.set_cons_zero, List.set_cons_succ, i64_w, i32_w]
    rfl
   refine pure_ (i := 20) (N := some 29) (v := undef) (a' := ?_) #[true, true, true, true, true, true, true, true, true, true, true, true, true, true, true, true, true, true, true, true, true, false, false, false, false, false, false, false, false, false] rfl rfl (any_of HT_.out (by kernel_rfl)) (fun _ _ _ h => h) (Or.inr ⟨by rfl, rfl⟩) ?_ ?_
   rotate_left
   ·simp only [Act.put, List.setIfInBounds_toArray, List.set_cons_zero, List.set_cons_succ, i64_w, i32_w]
    rfl
   refine pure_ (i := 21) (N := some 30) (v := undef) (a' := ?_) #[true, true, true, true, true, true, true, true, true, true, true, true, true, true, true, true, true, true, true, true, true, true, false, false, false, false, false, false, false, false] rfl rfl (any_of HT_.out (by kernel_rfl)) (fun _ _ _ h => h) (Or.inr ⟨by rfl, rfl⟩) ?_ ?_
   rotate_left
   ·simp only [Act.put, List.setIfInBounds_toArray, List.set_cons_zero, List.set_cons_succ, i64_w, i32_w]
    rfl
   refine pure_ (i := 22) (N := some 31) (v := undef) (a' := ?_) #[true, true, true, true, true, true, true, true, true, true, true, true, true, true, true, true, true, true, true, true, true, true, true, false, false, false, false, false, false, false] rfl rfl (any_of HT_.out (by kernel_rfl)) (fun _ _ _ h => h) (Or.inr ⟨by rfl, rfl⟩) ?_ ?_
   rotate_left
   ·simp only [Act.put, List.setIfInBounds_toArray, List.set_cons_zero, List.set_cons_succ, i64_w, i32_w]
    rfl
   refine pure_ (i := 23) (N := some 32) (v := undef) (a' := ?_) #[true, true, true, true, true, true, true, true, true, true, true, true, true, true, true, true, true, true, true, true, true, true, true, true, false, false, false, false, false, false] rfl rfl (any_of HT_.out (by kernel_rfl)) (fun _ _ _ h => h) (Or.inr ⟨by rfl, rfl⟩) ?_ ?_
   rotate_left
   ·simp only [Act.put, List.setIfInBounds_toArray, List.set_cons_zero, List.set_cons_succ, i64_w, i32_w]
    rfl
   refine pure_ (i := 24) (N := some 33) (v := undef) (a' := ?_) #[true, true, true, true, true, true, true, true, true, true, true, true, true, true, true, true, true, true, true, true, true, true, true, true, true, false, false, false, false, false] rfl rfl (any_of HT_.out (by kernel_rfl)) (fun _ _ _ h => h) (Or.inr ⟨by rfl, rfl⟩) ?_ ?_
   rotate_left
   ·simp only [Act.put, List.setIfInBounds_toArray, List.set_cons_zero, List.set_cons_succ, i64_w, i32_w]
    rfl
   refine pure_ (i := 25) (N := some 34) (v := undef) (a' := ?_) #[true, true, true, true, true, true, true, true, true, true, true, true, true, true, true, true, true, true, true, true, true, true, true, true, true, true, false, false, false, false] rfl rfl (any_of HT_.out (by kernel_rfl)) (fun _ _ _ h => h) (Or.inr ⟨by rfl, rfl⟩) ?_ ?_
   rotate_left
   ·simp only [Act.put, List.setIfInBounds_toArray, List.set_cons_zero, List.set_cons_succ, i64_w, i32_w]
    rfl
   refine pure_ (i := 26) (N := some 35) (v := undef) (a' := ?_) #[true, true, true, true, true, true, true, true, true, true, true, true, true, true, true, true, true, true, true, true, true, true, true, true, true, true, true, false, false, false] rfl rfl (any_of HT_.out (by kernel_rfl)) (fun _ _ _ h => h) (Or.inr ⟨by rfl, rfl⟩) ?_ ?_
   rotate_left
   ·simp only [Act.put, List.setIfInBounds_toArray, List.set_cons_zero, List.set_cons_succ, i64_w, i32_w]
    rfl
   refine pure_ (i := 27) (N := some 36) (v := undef) (a' := ?_) #[true, true, true, true, true, true, true, true, true, true, true, true, true, true, true, true, true, true, true, true, true, true, true, true, true, true, true, true, false, false] rfl rfl (any_of HT_.out (by kernel_rfl)) (fun _ _ _ h => h) (Or.inr ⟨by rfl, rfl⟩) ?_ ?_
   rotate_left
   ·simp only [Act.put, List.setIfInBounds_toArray, List.set_cons_zero, List.set_cons_succ, i64_w, i32_w]
    rfl
   refine pure_ (i := 28) (N := some 37) (v := undef) (a' := ?_) #[true, true, true, true, true, true, true, true, true, true, true, true, true, true, true, true, true, true, true, true, true, true, true, true, true, true, true, true, true, false] rfl rfl (any_of HT_.out (by kernel_rfl)) (fun _ _ _ h => h) (Or.inr ⟨by rfl, rfl⟩) ?_ ?_
   rotate_left
   ·simp only [Act.put, List.setIfInBounds_toArray, List.set_cons_zero, List.set_cons_succ, i64_w, i32_w]
    rfl
   refine pure_ (i := 29) (N := some 38) (v := ?_) (a' := ?_) #[true, true, true, true, true, true, true, true, true, true, true, true, true, true, true, true, true, true, true, true, true, true, true, true, true, true, true, true, true, true] rfl rfl (any_of HT_.out (by kernel_rfl)) (fun _ _ _ h => h) (Or.inl ⟨by rfl, ?_⟩) ?_ ?_
   rotate_left
   ·intro w'
    go_simp
    with_reducible rfl
   rotate_left
   ·simp only [Act.put, List.setIfInBounds_toArray, List.set_cons_zero, List.set_cons_succ, i64_w, i32_w]
    rfl
   refine done_ (done_of HT_.out (by kernel_rfl)) ?_
   try go_wp2
   go_ret
   exact ⟨rE, bW⟩
  ·rw [if_neg c5] at H
   have c5b0 : decide (2 < (l0_0.length : Int)) = false := decide_eq_false c5
   have c5b1 : decide (2 < l0_0.length) = false := decide_eq_false (by omega)
   clear c5
   by_cases c12 : (((l0_0.length : Int) == 0) != (a1 == 1)) = true
   ·rw [if_pos c12] at H
    have c12b0 : (((l0_0.length : Int) == 0) != (a1 == 1)) = true := c12
    (try (have c12b1 : decide (((l0_0.length : Int) == 0) = (a1 == 1)) = false := by simpa using c12))
    (try (have c12b2 : (((l0_0.length : Int) == 0) == (a1 == 1)) = false := by simpa using c12))
    (try (have c12b3 : ¬ (((l0_0.length : Int) == 0) = (a1 == 1)) := by simpa using c12))
    clear c12
    obtain rfl := Option.some.inj H
    go_enter Try.func124, Try.ntmps124
    try go_wp2_with (first | ((with_reducible refine gate_dst (N := 2) rfl ?_); refine bE (N := 2) (cs := #[.slice A0_0 l0_0.length c0_0, .slice A0_1 l0_1.length c0_1]) (t := 78) ?_; intro gb180 hg w13 hbox hb; have n0_ := Aside0.mk (below_step (w := w) bW hb); have n1_ := Aside0.mk (hbox); have n2_ := Aside0.mk (gS (w := w) hg); have n3_ := n2_; clear HB; have HB := n0_; have BK180 := n1_; have GW180 := n2_; have GE180 := n3_; clear n0_ n1_ n2_ n3_; clear hb hbox hg) | ((with_reducible refine gate_dst (N := 3) rfl ?_); refine bE (N := 3) (cs := #[.int .i64 a1]) (t := 3) ?_; intro gb181 hg w14 hbox hb; have n0_ := Aside0.mk (kb BK180 hb); have n1_ := Aside0.mk (below_step (w := w) bW hb); have n2_ := Aside0.mk (hbox); have n3_ := Aside0.mk (gS (w := w) hg); have n4_ := n3_; have n5_ := Aside0.mk (nL BK180 hg); have n6_ := Aside0.mk (nG BK180 hg); clear BK180; clear HB; have BK180 := n0_; have HB := n1_; have BK181 := n2_; have GW181 := n3_; have GE181 := n4_; have NB180_181 := n5_; have NB181_180 := n6_; clear n0_ n1_ n2_ n3_ n4_ n5_ n6_; clear hb hbox hg; have hnb15 := NB180_181.out; have hnc15 := NB181_180.out; obtain ⟨hcz16_0, hcz16_1⟩ := cz2 BK180; obtain ⟨hfz16_0, hfz16_1⟩ := fz2 BK180))
    have n0_ := Aside0.mk (blk_drew BK180.out)
    have n1_ := Aside0.mk (blk_drew BK181.out)
    have n2_ := Aside0.mk (below_drew1 HB.out)
    clear BK180
    clear BK181
    clear HB
    have BK180 := n0_
    have BK181 := n1_
    have HB := n2_
    clear n0_ n1_ n2_
    refine start_ (n := 30) (S := fun w' => w'.cell? ⟨gb180, 0, none⟩ = some (.slice A0_0 l0_0.length c0_0) ∧ w'.cell? ⟨gb180, 1, none⟩ = some (.slice A0_1 l0_1.length c0_1) ∧ w'.cell? ⟨gb181, 0, none⟩ = some (.int .i64 a1)) (ds := []) #[false, false, false, false, false, false, false, false, false, false, false, false, false, false, false, false, false, false, false, false, false, false, false, false, false, false, false, false, false, false] (by kernel_rfl) rfl rfl ⟨(blk_cell BK180.out 0).trans rfl, (blk_cell BK180.out 1).trans rfl, (blk_cell BK181.out 0).trans rfl⟩ (fun hHeld => ?_); refine with_tabW impl_Commit_isAt.tab2 impl_Commit_isAt.bits2 (fun HT_ HW_ => ?_)
    generalize w14.drew = w17 at BK180 BK181 HB hHeld ⊢
    refine pure_ (i := 0) (N := some 9) (v := ?_) (a' := ?_) #[true, false, false, false, false, false, false, false, false, false, false, false, false, false, false, false, false, false, false, false, false, false, false, false, false, false, false, false, false, false] rfl rfl (any_of HT_.out (by kernel_rfl)) (fun _ _ _ h => h) (Or.inl ⟨by rfl, ?_⟩) ?_ ?_
    rotate_left
    ·intro w'
     go_simp
     with_reducible rfl
    rotate_left
    ·simp only [Act.put, List.setIfInBounds_toArray, List.set_cons_zero, List.set_cons_succ, i64_w, i32_w]
     rfl
    refine take_ (i := 1) (N := some 10) (v := ?_) (a' := ?_) #[true, true, false, false, false, false, false, false, false, false, false, false, false, false, false, false, false, false, false, false, false, false, false, false, false, false, false, false, false, false] rfl rfl (take_ofW HT_.out HW_.out (by kernel_rfl)) (fun _ _ _ h => h) (Or.inl ⟨by rfl, ?_⟩) hHeld ?_ ?_
    rotate_left
    ·rintro w' ⟨s0, s1, s2⟩
     go_simp
     with_reducible rfl
    rotate_left
    ·simp only [Act.put, List.setIfInBounds_toArray, List.set_cons_zero, List.set_cons_succ, i64_w, i32_w]
     rfl
    refine one_ (i := 2) (N := some 11) #[true, true, true, false, false, false, false, false, false, false, false, false, false, false, false, false, false, false, false, false, false, false, false, false, false, false, false, false, false, false] rfl rfl (one_of HT_.out (by kernel_rfl)) (by decide) (fun K hK => ?_)
    refine goes_ Try.func104 (by kernel_rfl) rfl #[.slice A0_1 l0_1.length c0_1] (by rfl) rfl rfl gA ?_
    with_reducible refine (impl_MapOK.calls k _ _ l0_1 true _ ?side1 ?side2 A3.out).mono ?_
    (case side1 => exact cB HR0_1)
    (case side2 => exact HC0_1.out)
    rintro e w18 ⟨rfl, hb⟩
    refine ⟨_, rfl, ?_⟩
    have n0_ := Aside0.mk (kb BK180 hb)
    have n1_ := Aside0.mk (kb BK181 hb)
    have n2_ := Aside0.mk (below_step (w := w) bW hb)
    clear BK180
    clear BK181
    clear HB
    have BK180 := n0_
    have BK181 := n1_
    have HB := n2_
    clear n0_ n1_ n2_
    (try clear hb)
    (try clear hb2)
    (try clear hk)
    (try clear hi)
    refine hK.out _ _ ⟨(blk_cell BK180.out 0).trans rfl, (blk_cell BK180.out 1).trans rfl, (blk_cell BK181.out 0).trans rfl⟩ (fun hHeld => ?_)
    clear hK K
    refine norm_ (a' := ?_) ?_ ?_
    rotate_left
    ·show Act.put _ (some 11) _ = _
     simp only [Act.put, List.setIfInBounds_toArray, List.set_cons_zero, List.set_cons_succ, i64_w, i32_w]
     rfl
    refine pure_ (i := 3) (N := some 12) (v := ?_) (a' := ?_) #[true, true, true, true, false, false, false, false, false, false, false, false, false, false, false, false, false, false, false, false, false, false, false, false, false, false, false, false, false, false] rfl rfl (any_of HT_.out (by kernel_rfl)) (fun _ _ _ h => h) (Or.inl ⟨by rfl, ?_⟩) ?_ ?_
    rotate_left
    ·intro w'
     go_simp
     with_reducible rfl
    rotate_left
    ·simp only [Act.put, List.setIfInBounds_toArray, List.set_cons_zero, List.set_cons_succ, i64_w, i32_w]
     rfl
    refine pure_ (i := 4) (N := some 13) (v := ?_) (a' := ?_) #[true, true, true, true, true, false, false, false, false, false, false, false, false, false, false, false, false, false, false, false, false, false, false, false, false, false, false, false, false, false] rfl rfl (any_of HT_.out (by kernel_rfl)) (fun _ _ _ h => h) (Or.inl ⟨by rfl, ?_⟩) ?_ ?_
    rotate_left
    ·intro w'
     go_simp
     with_reducible rfl
    rotate_left
    ·simp only [Act.put, List.setIfInBounds_toArray, List.set_cons_zero, List.set_cons_succ, i64_w, i32_w]
     rfl
    refine pure_ (i := 5) (N := some 14) (v := ?_) (a' := ?_) #[true, true, true, true, true, true, false, false, false, false, false, false, false, false, false, false, false, false, false, false, false, false, false, false, false, false, false, false, false, false] rfl rfl (any_of HT_.out (by kernel_rfl)) (fun _ _ _ h => h) (Or.inl ⟨by rfl, ?_⟩) ?_ ?_
    rotate_left
    ·intro w'
     go_simp
     with_reducible rfl
    rotate_left
    ·simp only [Act.put, List.setIfInBounds_toArray, List.set_cons_zero, List.set_cons_succ, i64_w, i32_w]
     rfl
    refine pure_ (i := 6) (N := some 15) (v := ?_) (a' := ?_) #[true, true, true, true, true, true, true, false, false, false, false, false, false, false, false, false, false, false, false, false, false, false, false, false, false, false, false, false, false, false] rfl rfl (any_of HT_.out (by kernel_rfl)) (fun _ _ _ h => h) (Or.inl ⟨by rfl, ?_⟩) ?_ ?_
    rotate_left
    ·intro w'
     go_simp
     with_reducible rfl
    rotate_left
    ·simp only [Act.put, List.setIfInBounds_toArray, List.set_cons_zero, List.set_cons_succ, i64_w, i32_w]
     rfl
    refine pure_ (i := 7) (N := some 16) (v := ?_) (a' := ?_) #[true, true, true, true, true, true, true, true, false, false, false, false, false, false, false, false, false, false, false, false, false, false, false, false, false, false, false, false, false, false] rfl rfl (any_of HT_.out (by kernel_rfl)) (fun _ _ _ h => h) (Or.inl ⟨by rfl, ?_⟩) ?_ ?_
    rotate_left
    ·intro w'
     go_simp
     with_reducible rfl
    rotate_left
    ·simp only [Act.put, List.setIfInBounds_toArray, List.set_cons_zero, List.set_cons_succ, i64_w, i32_w]
     rfl
    refine pure_ (i := 8) (N := some 17) (v := ?_) (a' := ?_) #[true, true, true, true, true, true, true, true, true, false, false, false, false, false, false, false, false, false, false, false, false, false, false, false, false, false, false, false, false, false] rfl rfl (any_of HT_.out (by kernel_rfl)) (fun _ _ _ h => h) (Or.inl ⟨by rfl, ?_⟩) ?_ ?_
    rotate_left
    ·intro w'
     go_simp
     with_reducible rfl
    rotate_left
    ·simp only [Act.put, List.setIfInBounds_toArray, List.set_cons_zero, List.set_cons_succ, i64_w, i32_w]
     rfl
    refine pure_ (i := 9) (N := some 18) (v := ?_) (a' := ?_) #[true, true, true, true, true, true, true, true, true, true, false, false, false, false, false, false, false, false, false, false, false, false, false, false, false, false, false, false, false, false] rfl rfl (any_of HT_.out (by kernel_rfl)) (fun _ _ _ h => h) (Or.inl ⟨by rfl, ?_⟩) ?_ ?_
    rotate_left
    ·intro w'
     go_simp
     with_reducible rfl
    rotate_left
    ·simp only [Act.put, List.setIfInBounds_toArray, List.set_cons_zero, List.set_cons_succ, i64_w, i32_w]
     rfl
    refine pure_ (i := 10) (N := some 19) (v := ?_) (a' := ?_) #[true, true, true, true, true, true, true, true, true, true, true, false, false, false, false, false, false, false, false, false, false, false, false, false, false, false, false, false, false, false] rfl rfl (any_of HT_.out (by kernel_rfl)) (fun _ _ _ h => h) (Or.inl ⟨by rfl, ?_⟩) ?_ ?_
    rotate_left
    ·intro w'
     go_simp
     with_reducible rfl
    rotate_left
    ·simp only [Act.put, List.setIfInBounds_toArray, List.set_cons_zero, List.set_cons_succ, i64_w, i32_w]
     rfl
    refine take_ (i := 11) (N := some 20) (v := ?_) (a' := ?_) #[true, true, true, true, true, true, true, true, true, true, true, true, false, false, false, false, false, false, false, false, false, false, false, false, false, false, false, false, false, false] rfl rfl (take_ofW HT_.out HW_.out (by kernel_rfl)) (fun _ _ _ h => h) (Or.inl ⟨by rfl, ?_⟩) hHeld ?_ ?_
    rotate_left
    ·rintro w' ⟨s0, s1, s2⟩
     go_simp
     with_reducible rfl
    rotate_left
    ·simp only [Act.put, List.setIfInBounds_toArray, List.set_cons_zero, List.set_cons_succ, i64_w, i32_w]
     rfl
    refine pure_ (i := 12) (N := some 21) (v := ?_) (a' := ?_) #[true, true, true, true, true, true, true, true, true, true, true, true, true, false, false, false, false, false, false, false, false, false, false, false, false, false, false, false, false, false] rfl rfl (any_of HT_.out (by kernel_rfl)) (fun _ _ _ h => h) (Or.inl ⟨by rfl, ?_⟩) ?_ ?_
    rotate_left
    ·intro w'
     go_simp
     with_reducible rfl
    rotate_left
    ·simp only [Act.put, List.setIfInBounds_toArray, List.set_cons_zero, List.set_cons_succ, i64_w, i32_w]
     rfl
    refine pure_ (i := 13) (N := some 22) (v := ?_) (a' := ?_) #[true, true, true, true, true, true, true, true, true, true, true, true, true, true, false, false, false, false, false, false, false, false, false, false, false, false, false, false, false, false] rfl rfl (any_of HT_.out (by kernel_rfl)) (fun _ _ _ h => h) (Or.inl ⟨by rfl, ?_⟩) ?_ ?_
    rotate_left
    ·intro w'
     go_simp
     with_reducible rfl
    rotate_left
    ·simp only [Act.put, List.setIfInBounds_toArray, List.set_cons_zero, List.set_cons_succ, i64_w, i32_w]
     rfl
    refine pure_ (i := 14) (N := some 23) (v := ?_) (a' := ?_) #[true, true, true, true, true, true, true, true, true, true, true, true, true, true, true, false, false, false, false, false, false, false, false, false, false, false, false, false, false, false] rfl rfl (any_of HT_.out (by kernel_rfl)) (fun _ _ _ h => h) (Or.inl ⟨by rfl, ?_⟩) ?_ ?_
    rotate_left
    ·intro w'
     go_simp
     with_reducible rfl
    rotate_left
    ·simp only [Act.put, List.setIfInBounds_toArray, List.set_cons_zero, List.set_cons_succ, i64_w, i32_w]
     rfl
    refine pure_ (i := 15) (N := some 24) (v := ?_) (a' := ?_) #[true, true, true, true, true, true, true, true, true, true, true, true, true, true, true, true, false, false, false, false, false, false, false, false, false, false, false, false, false, false] rfl rfl (any_of HT_.out (by kernel_rfl)) (fun _ _ _ h => h) (Or.inl ⟨by rfl, ?_⟩) ?_ ?_
    rotate_left
    ·intro w'
     go_simp
     with_reducible rfl
    rotate_left
    ·simp only [Act.put, List.setIfInBounds_toArray, List.set_cons_zero, List.set_cons_succ, i64_w, i32_w]
     rfl
    refine pure_ (i := 16) (N := some 25) (v := undef) (a' := ?_) #[true, true, true, true, true, true, true, true, true, true, true, true, true, true, true, true, true, false, false, false, false, false, false, false, false, false, false, false, false, false] rfl rfl (any_of HT_.out (by kernel_rfl)) (fun _ _ _ h => h) (Or.inr ⟨by rfl, rfl⟩) ?_ ?_
    rotate_left
    ·simp only [Act.put, List.setIfInBounds_toArray, List.set_cons_zero, List.set_cons_succ, i64_w, i32_w]
     rfl
    refine pure_ (i := 17) (N := some 26) (v := undef) (a' := ?_) #[true, true, true, true, true, true, true, true, true, true, true, true, true, true, true, true, true, true, false, false, false, false, false, false, false, false, false, false, false, false] rfl rfl (any_of HT_.out (by kernel_rfl)) (fun _ _ _ h => h) (Or.inr ⟨by rfl, rfl⟩) ?_ ?_
    rotate_left
    ·simp only [Act.put, List.setIfInBounds_toArray, List.set_cons_zero, List.set_cons_succ, i64_w, i32_w]
     rfl
    refine pure_ (i := 18) (N := some 27) (v := undef) (a' := ?_) #[true, true, true, true, true, true, true, true, true, true, true, true, true, true, true, true, true, true, true, false, false, false, false, false, false, false, false, false, false, false] rfl rfl (any_of HT_.out (by kernel_rfl)) (fun _ _ _ h => h) (Or.inr ⟨by rfl, rfl⟩) ?_ ?_
    rotate_left
    ·simp only [Act.put, List.setIfInBounds_toArray, List.set_cons_zero, List.set_cons_succ, i64_w, i32_w]
     rfl
    refine pure_ (i := 19) (N := some 28) (v := undef) (a' := ?_) #[true, true, true, true, true, true, true, true, true, true, true, true, true, true, true, true, true, true, true, true, false, false, false, false, false, false, false, false, false, false] rfl rfl (any_of HT_.out (by kernel_rfl)) (fun _ _ _ h => h) (Or.inr ⟨by rfl, rfl⟩) ?_ ?_
    rotate_left
    ·simp only [Act.put, List.setIfInBounds_toArray, List.set_cons_zero, List.set_cons_succ, i64_w, i32_w]
     rfl
    refine pure_ (i := 20) (N := some 29) (v := undef) (a' := ?_) #[true, true, true, true, true, true, true, true, true, true, true, true, true, true, true, true, true, true, true, true, true, false, false, false, false, false, false, false, false, false] rfl rfl (any_of HT_.out (by kernel_rfl)) (fun _ _ _ h => h) (Or.inr ⟨by rfl, rfl⟩) ?_ ?_
    rotate_left
    ·simp only [Act.put, List.setIfInBounds_toArray, List.set_cons_zero, List.set_cons_succ, i64_w, i32_w]
     rfl
    refine pure_ (i := 21) (N := some 30) (v := undef) (a' := ?_) #[true, true, true, true, true, true, true, true, true, true, true, true, true, true, true, true, true, true, true, true, true, true, false, false, false, false, false, false, false, false] rfl rfl (any_of HT_.out (by kernel_rfl)) (fun _ _ _ h => h) (Or.inr ⟨by rfl, rfl⟩) ?_ ?_
    rotate_left
    ·simp only [Act.put, List.setIfInBounds_toArray, List.set_cons_zero, List.set_cons_succ, i64_w, i32_w]
     rfl
    refine pure_ (i := 22) (N := some 31) (v := undef) (a' := ?_) #[true, true, true, true, true, true, true, true, true, true, true, true, true, true, true, true, true, true, true, true, true, true, true, false, false, false, false, false, false, false] rfl rfl (any_of HT_.out (by kernel_rfl)) (fun _ _ _ h => h) (Or.inr ⟨by rfl, rfl⟩) ?_ ?_
    rotate_left
    ·simp only [Act.put, List.setIfInBounds_toArray, List.set_cons_zero, List.set_cons_succ, i64_w, i32_w]
     rfl
    refine pure_ (i := 23) (N := some 32) (v := undef) (a' := ?_) #[true, true, true, true, true, true, true, true, true, true, true, true, true, true, true, true, true, true, true, true, true, true, true, true, false, false, false, false, false, false] rfl rfl (any_of HT_.out (by kernel_rfl)) (fun _ _ _ h => h) (Or.inr ⟨by rfl, rfl⟩) ?_ ?_
    rotate_left
    ·simp only [Act.put, List.setIfInBounds_toArray, List.set_cons_zero, List.set_cons_succ, i64_w, i32_w]
     rfl
    refine pure_ (i := 24) (N := some 33) (v := undef) (a' := ?_) #[true, true, true, true, true, true, true, true, true, true, true, true, true, true, true, true, true, true, true, true, true, true, true, true, true, false, false, false, false, false] rfl rfl (any_of HT_.out (by kernel_rfl)) (fun _ _ _ h => h) (Or.inr ⟨by rfl, rfl⟩) ?_ ?_
    rotate_left
    ·simp only [Act.put, List.setIfInBounds_toArray, List.set_cons_zero, List.set_cons_succ, i64_w, i32_w]
     rfl
    refine pure_ (i := 25) (N := some 34) (v := undef) (a' := ?_) #[true, true, true, true, true, true, true, true, true, true, true, true, true, true, true, true, true, true, true, true, true, true, true, true, true, true, false, false, false, false] rfl rfl (any_of HT_.out (by kernel_rfl)) (fun _ _ _ h => h) (Or.inr ⟨by rfl, rfl⟩) ?_ ?_
    rotate_left
    ·simp only [Act.put, List.setIfInBounds_toArray, List.set_cons_zero, List.set_cons_succ, i64_w, i32_w]
     rfl
    refine pure_ (i := 26) (N := some 35) (v := undef) (a' := ?_) #[true, true, true, true, true, true, true, true, true, true, true, true, true, true, true, true, true, true, true, true, true, true, true, true, true, true, true, false, false, false] rfl rfl (any_of HT_.out (by kernel_rfl)) (fun _ _ _ h => h) (Or.inr ⟨by rfl, rfl⟩) ?_ ?_
    rotate_left
    ·simp only [Act.put, List.setIfInBounds_toArray, List.set_cons_zero, List.set_cons_succ, i64_w, i32_w]
     rfl
    refine pure_ (i := 27) (N := some 36) (v := undef) (a' := ?_) #[true, true, true, true, true, true, true, true, true, true, true, true, true, true, true, true, true, true, true, true, true, true, true, true, true, true, true, true, false, false] rfl rfl (any_of HT_.out (by kernel_rfl)) (fun _ _ _ h => h) (Or.inr ⟨by rfl, rfl⟩) ?_ ?_
    rotate_left
    ·simp only [Act.put, List.setIfInBounds_toArray, List.set_cons_zero, List.set_cons_succ, i64_w, i32_w]
     rfl
    refine pure_ (i := 28) (N := some 37) (v := undef) (a' := ?_) #[true, true, true, true, true, true, true, true, true, true, true, true, true, true, true, true, true, true, true, true, true, true, true, true, true, true, true, true, true, false] rfl rfl (any_of HT_.out (by kernel_rfl)) (fun _ _ _ h => h) (Or.inr ⟨by rfl, rfl⟩) ?_ ?_
    rotate_left
    ·simp only [Act.put, List.setIfInBounds_toArray, List.set_cons_zero, List.set_cons_succ, i64_w, i32_w]
     rfl
    refine pure_ (i := 29) (N := some 38) (v := ?_) (a' := ?_) #[true, true, true, true, true, true, true, true, true, true, true, true, true, true, true, true, true, true, true, true, true, true, true, true, true, true, true, true, true, true] rfl rfl (any_of HT_.out (by kernel_rfl)) (fun _ _ _ h => h) (Or.inl ⟨by rfl, ?_⟩) ?_ ?_
    rotate_left
    ·intro w'
     go_simp
     with_reducible rfl
    rotate_left
    ·simp only [Act.put, List.setIfInBounds_toArray, List.set_cons_zero, List.set_cons_succ, i64_w, i32_w]
     rfl
    refine done_ (done_of HT_.out (by kernel_rfl)) ?_
    try go_wp2
    go_ret
    exact ⟨rE, bW⟩
   ·rw [if_neg c12] at H
    have c12b0 : (((l0_0.length : Int) == 0) != (a1 == 1)) = false := by simpa using c12
    (try (have c12b1 : decide (((l0_0.length : Int) == 0) = (a1 == 1)) = true := by simpa using c12))
    (try (have c12b2 : (((l0_0.length : Int) == 0) == (a1 == 1)) = true := by simpa using c12))
    clear c12
    by_cases c19 : (l0_0.length : Int) = 2
    ·rw [if_pos c19] at H
     have c19b0 : ((l0_0.length : Int) == 2) = true := beq_iff_eq.mpr c19
     have c19b1 : ((l0_0.length : Int) != 2) = false := bne_eq_false_iff_eq.mpr c19
     clear c19
     by_cases c20 : 0 < (l0_0.length : Int)
     ·rw [if_pos c20] at H
      have c20b0 : decide (0 < (l0_0.length : Int)) = true := decide_eq_true c20
      have c20b1 : decide (0 < l0_0.length) = true := decide_eq_true (by omega)
      clear c20
      by_cases c21 : 1 < (l0_0.length : Int)
      ·rw [if_pos c21] at H
       have c21b0 : decide (1 < (l0_0.length : Int)) = true := decide_eq_true c21
       have c21b1 : decide (1 < l0_0.length) = true := decide_eq_true (by omega)
       clear c21
       by_cases c22 : (rd l0_0 0) = (rd l0_0 1)
       ·rw [if_pos c22] at H
        have c22b0 : ((rd l0_0 0) == (rd l0_0 1)) = true := beq_iff_eq.mpr c22
        have c22b1 : ((rd l0_0 0) != (rd l0_0 1)) = false := bne_eq_false_iff_eq.mpr c22
        clear c22
        obtain rfl := Option.some.inj H
        go_enter Try.func124, Try.ntmps124
        try go_wp2_with (first | ((with_reducible refine gate_dst (N := 2) rfl ?_); refine bE (N := 2) (cs := #[.slice A0_0 l0_0.length c0_0, .slice A0_1 l0_1.length c0_1]) (t := 78) ?_; intro gb180 hg w23 hbox hb; have n0_ := Aside0.mk (below_step (w := w) bW hb); have n1_ := Aside0.mk (hbox); have n2_ := Aside0.mk (gS (w := w) hg); have n3_ := n2_; clear HB; have HB := n0_; have BK180 := n1_; have GW180 := n2_; have GE180 := n3_; clear n0_ n1_ n2_ n3_; clear hb hbox hg) | ((with_reducible refine gate_dst (N := 3) rfl ?_); refine bE (N := 3) (cs := #[.int .i64 a1]) (t := 3) ?_; intro gb181 hg w24 hbox hb; have n0_ := Aside0.mk (kb BK180 hb); have n1_ := Aside0.mk (below_step (w := w) bW hb); have n2_ := Aside0.mk (hbox); have n3_ := Aside0.mk (gS (w := w) hg); have n4_ := n3_; have n5_ := Aside0.mk (nL BK180 hg); have n6_ := Aside0.mk (nG BK180 hg); clear BK180; clear HB; have BK180 := n0_; have HB := n1_; have BK181 := n2_; have GW181 := n3_; have GE181 := n4_; have NB180_181 := n5_; have NB181_180 := n6_; clear n0_ n1_ n2_ n3_ n4_ n5_ n6_; clear hb hbox hg; have hnb25 := NB180_181.out; have hnc25 := NB181_180.out; obtain ⟨hcz26_0, hcz26_1⟩ := cz2 BK180; obtain ⟨hfz26_0, hfz26_1⟩ := fz2 BK180))
        have n0_ := Aside0.mk (blk_drew BK180.out)
        have n1_ := Aside0.mk (blk_drew BK181.out)
        have n2_ := Aside0.mk (below_drew1 HB.out)
        clear BK180
        clear BK181
        clear HB
        have BK180 := n0_
        have BK181 := n1_
        have HB := n2_
        clear n0_ n1_ n2_
        have p183 : 0 ≤ (0 : Int) := (by omega)
        have q183 : 0 < (l0_0.length : Int) := odt
        obtain ⟨ad183, e183, hx183_0⟩ := Kd.at_int HR0_0.out 0 p183 q183
        have hw183_0 := hx183_0
        (try rw [show ((0 : Int)).toNat = 0 from rfl] at hw183_0)
        (try rw [show 0 * 1 = 0 from rfl] at hw183_0)
        (try rw [Addr.add_zero'] at hw183_0)
        cases e183
        have qi183 : (0 < l0_0.length) = True := eq_true (by omega)
        (try rw [show ((0 : Int)).toNat = 0 from rfl] at hx183_0)
        (try rw [Addr.add_zero'] at hx183_0)
        replace hx183_0 := (HB.out.cell (World.block_lt_of_cell? w _ hx183_0)).trans hx183_0
        replace p183 := eq_true p183
        replace q183 := eq_true q183
        have p184 : 0 ≤ (1 : Int) := (by omega)
        have q184 : 1 < (l0_0.length : Int) := odt
        obtain ⟨ad184, e184, hx184_0⟩ := Kd.at_int HR0_0.out 1 p184 q184
        have hw184_0 := hx184_0
        (try rw [show ((1 : Int)).toNat = 1 from rfl] at hw184_0)
        (try rw [show 1 * 1 = 1 from rfl] at hw184_0)
        (try simp only [Nat.reduceMul, Nat.reduceEqDiff, Go.Addr.add, ↓reduceIte] at hw184_0)
        obtain rfl : ad183 = ad184 := (by injection e184)
        (try simp only [show (1 : Int).toNat = 1 from rfl, Nat.reduceMul, Nat.reduceEqDiff, Go.Addr.add, ↓reduceIte] at hx184_0)
        have qi184 : (1 < l0_0.length) = True := eq_true (by omega)
        (try rw [show ((1 : Int)).toNat = 1 from rfl] at hx184_0)
        replace hx184_0 := (HB.out.cell (World.block_lt_of_cell? w _ hx184_0)).trans hx184_0
        replace p184 := eq_true p184
        replace q184 := eq_true q184
        refine start_ (n := 30) (S := fun w' => w'.cell? ⟨gb180, 0, none⟩ = some (.slice (some ad183) l0_0.length c0_0) ∧ w'.cell? ⟨gb180, 1, none⟩ = some (.slice A0_1 l0_1.length c0_1) ∧ w'.cell? ⟨gb181, 0, none⟩ = some (.int .i64 a1) ∧ w'.cell? ad183 = some (.int .i64 (rd l0_0 0)) ∧ w'.cell? ⟨ad183.block, ad183.off + 1, none⟩ = some (.int .i64 (rd l0_0 1))) (ds := []) #[false, false, false, false, false, false, false, false, false, false, false, false, false, false, false, false, false, false, false, false, false, false, false, false, false, false, false, false, false, false] (by kernel_rfl) rfl rfl ⟨(blk_cell BK180.out 0).trans rfl, (blk_cell BK180.out 1).trans rfl, (blk_cell BK181.out 0).trans rfl, ((HB.out.cell (World.block_lt_of_cell? w _ hw183_0)).trans hw183_0), ((HB.out.cell (World.block_lt_of_cell? w _ hw184_0)).trans hw184_0)⟩ (fun hHeld => ?_); refine with_tabW impl_Commit_isAt.tab2 impl_Commit_isAt.bits2 (fun HT_ HW_ => ?_)
        generalize w24.drew = w27 at BK180 BK181 HB hx183_0 hx184_0 hHeld ⊢
        refine pure_ (i := 0) (N := some 9) (v := ?_) (a' := ?_) #[true, false, false, false, false, false, false, false, false, false, false, false, false, false, false, false, false, false, false, false, false, false, false, false, false, false, false, false, false, false] rfl rfl (any_of HT_.out (by kernel_rfl)) (fun _ _ _ h => h) (Or.inl ⟨by rfl, ?_⟩) ?_ ?_
        rotate_left
        ·intro w'
         go_simp
         with_reducible rfl
        rotate_left
        ·simp only [Act.put, List.setIfInBounds_toArray, List.set_cons_zero, List.set_cons_succ, i64_w, i32_w]
         rfl
        refine take_ (i := 1) (N := some 10) (v := ?_) (a' := ?_) #[true, true, false, false, false, false, false, false, false, false, false, false, false, false, false, false, false, false, false, false, false, false, false, false, false, false, false, false, false, false] rfl rfl (take_ofW HT_.out HW_.out (by kernel_rfl)) (fun _ _ _ h => h) (Or.inl ⟨by rfl, ?_⟩) hHeld ?_ ?_
        rotate_left
        ·rintro w' ⟨s0, s1, s2, s3, s4⟩
         go_simp
         with_reducible rfl
        rotate_left
        ·simp only [Act.put, List.setIfInBounds_toArray, List.set_cons_zero, List.set_cons_succ, i64_w, i32_w]
         rfl
        refine one_ (i := 2) (N := some 11) #[true, true, true, false, false, false, false, false, false, false, false, false, false, false, false, false, false, false, false, false, false, false, false, false, false, false, false, false, false, false] rfl rfl (one_of HT_.out (by kernel_rfl)) (by decide) (fun K hK => ?_)
        refine goes_ Try.func104 (by kernel_rfl) rfl #[.slice A0_1 l0_1.length c0_1] (by rfl) rfl rfl gA ?_
        with_reducible refine (impl_MapOK.calls k _ _ l0_1 true _ ?side1 ?side2 A3.out).mono ?_
        (case side1 => exact cB HR0_1)
        (case side2 => exact HC0_1.out)
        rintro e w28 ⟨rfl, hb⟩
        refine ⟨_, rfl, ?_⟩
        have n0_ := Aside0.mk (kb BK180 hb)
        have n1_ := Aside0.mk (kb BK181 hb)
        have n2_ := Aside0.mk (below_step (w := w) bW hb)
        clear BK180
        clear BK181
        clear HB
        have BK180 := n0_
        have BK181 := n1_
        have HB := n2_
        clear n0_ n1_ n2_
        (try clear hb)
        (try clear hb2)
        (try clear hk)
        (try clear hi)
        refine hK.out _ _ ⟨(blk_cell BK180.out 0).trans rfl, (blk_cell BK180.out 1).trans rfl, (blk_cell BK181.out 0).trans rfl, ((HB.out.cell (World.block_lt_of_cell? w _ hw183_0)).trans hw183_0), ((HB.out.cell (World.block_lt_of_cell? w _ hw184_0)).trans hw184_0)⟩ (fun hHeld => ?_)
        clear hK K
        refine norm_ (a' := ?_) ?_ ?_
        rotate_left
        ·show Act.put _ (some 11) _ = _
         simp only [Act.put, List.setIfInBounds_toArray, List.set_cons_zero, List.set_cons_succ, i64_w, i32_w]
         rfl
        refine pure_ (i := 3) (N := some 12) (v := ?_) (a' := ?_) #[true, true, true, true, false, false, false, false, false, false, false, false, false, false, false, false, false, false, false, false, false, false, false, false, false, false, false, false, false, false] rfl rfl (any_of HT_.out (by kernel_rfl)) (fun _ _ _ h => h) (Or.inl ⟨by rfl, ?_⟩) ?_ ?_
        rotate_left
        ·intro w'
         go_simp
         with_reducible rfl
        rotate_left
        ·simp only [Act.put, List.setIfInBounds_toArray, List.set_cons_zero, List.set_cons_succ, i64_w, i32_w]
         rfl
        refine pure_ (i := 4) (N := some 13) (v := ?_) (a' := ?_) #[true, true, true, true, true, false, false, false, false, false, false, false, false, false, false, false, false, false, false, false, false, false, false, false, false, false, false, false, false, false] rfl rfl (any_of HT_.out (by kernel_rfl)) (fun _ _ _ h => h) (Or.inl ⟨by rfl, ?_⟩) ?_ ?_
        rotate_left
        ·intro w'
         go_simp
         with_reducible rfl
        rotate_left
        ·simp only [Act.put, List.setIfInBounds_toArray, List.set_cons_zero, List.set_cons_succ, i64_w, i32_w]
         rfl
        refine pure_ (i := 5) (N := some 14) (v := ?_) (a' := ?_) #[true, true, true, true, true, true, false, false, false, false, false, false, false, false, false, false, false, false, false, false, false, false, false, false, false, false, false, false, false, false] rfl rfl (any_of HT_.out (by kernel_rfl)) (fun _ _ _ h => h) (Or.inl ⟨by rfl, ?_⟩) ?_ ?_
        rotate_left
        ·intro w'
         go_simp
         with_reducible rfl
        rotate_left
        ·simp only [Act.put, List.setIfInBounds_toArray, List.set_cons_zero, List.set_cons_succ, i64_w, i32_w]
         rfl
        refine pure_ (i := 6) (N := some 15) (v := ?_) (a' := ?_) #[true, true, true, true, true, true, true, false, false, false, false, false, false, false, false, false, false, false, false, false, false, false, false, false, false, false, false, false, false, false] rfl rfl (any_of HT_.out (by kernel_rfl)) (fun _ _ _ h => h) (Or.inl ⟨by rfl, ?_⟩) ?_ ?_
        rotate_left
        ·intro w'
         go_simp
         with_reducible rfl
        rotate_left
        ·simp only [Act.put, List.setIfInBounds_toArray, List.set_cons_zero, List.set_cons_succ, i64_w, i32_w]
         rfl
        refine pure_ (i := 7) (N := some 16) (v := ?_) (a' := ?_) #[true, true, true, true, true, true, true, true, false, false, false, false, false, false, false, false, false, false, false, false, false, false, false, false, false, false, false, false, false, false] rfl rfl (any_of HT_.out (by kernel_rfl)) (fun _ _ _ h => h) (Or.inl ⟨by rfl, ?_⟩) ?_ ?_
        rotate_left
        ·intro w'
         go_simp
         with_reducible rfl
        rotate_left
        ·simp only [Act.put, List.setIfInBounds_toArray, List.set_cons_zero, List.set_cons_succ, i64_w, i32_w]
         rfl
        refine pure_ (i := 8) (N := some 17) (v := ?_) (a' := ?_) #[true, true, true, true, true, true, true, true, true, false, false, false, false, false, false, false, false, false, false, false, false, false, false, false, false, false, false, false, false, false] rfl rfl (any_of HT_.out (by kernel_rfl)) (fun _ _ _ h => h) (Or.inl ⟨by rfl, ?_⟩) ?_ ?_
        rotate_left
        ·intro w'
         go_simp
         with_reducible rfl
        rotate_left
        ·simp only [Act.put, List.setIfInBounds_toArray, List.set_cons_zero, List.set_cons_succ, i64_w, i32_w]
         rfl
        refine pure_ (i := 9) (N := some 18) (v := ?_) (a' := ?_) #[true, true, true, true, true, true, true, true, true, true, false, false, false, false, false, false, false, false, false, false, false, false, false, false, false, false, false, false, false, false] rfl rfl (any_of HT_.out (by kernel_rfl)) (fun _ _ _ h => h) (Or.inl ⟨by rfl, ?_⟩) ?_ ?_
        rotate_left
        ·intro w'
         go_simp
         with_reducible rfl
        rotate_left
        ·simp only [Act.put, List.setIfInBounds_toArray, List.set_cons_zero, List.set_cons_succ, i64_w, i32_w]
         rfl
        refine pure_ (i := 10) (N := some 19) (v := ?_) (a' := ?_) #[true, true, true, true, true, true, true, true, true, true, true, false, false, false, false, false, false, false, false, false, false, false, false, false, false, false, false, false, false, false] rfl rfl (any_of HT_.out (by kernel_rfl)) (fun _ _ _ h => h) (Or.inl ⟨by rfl, ?_⟩) ?_ ?_
        rotate_left
        ·intro w'
         go_simp
         with_reducible rfl
        rotate_left
        ·simp only [Act.put, List.setIfInBounds_toArray, List.set_cons_zero, List.set_cons_succ, i64_w, i32_w]
         rfl
        refine take_ (i := 11) (N := some 20) (v := ?_) (a' := ?_) #[true, true, true, true, true, true, true, true, true, true, true, true, false, false, false, false, false, false, false, false, false, false, false, false, false, false, false, false, false, false] rfl rfl (take_ofW HT_.out HW_.out (by kernel_rfl)) (fun _ _ _ h => h) (Or.inl ⟨by rfl, ?_⟩) hHeld ?_ ?_
        rotate_left
        ·rintro w' ⟨s0, s1, s2, s3, s4⟩
         go_simp
         with_reducible rfl
        rotate_left
        ·simp only [Act.put, List.setIfInBounds_toArray, List.set_cons_zero, List.set_cons_succ, i64_w, i32_w]
         rfl
        refine pure_ (i := 12) (N := some 21) (v := ?_) (a' := ?_) #[true, true, true, true, true, true, true, true, true, true, true, true, true, false, false, false, false, false, false, false, false, false, false, false, false, false, false, false, false, false] rfl rfl (any_of HT_.out (by kernel_rfl)) (fun _ _ _ h => h) (Or.inl ⟨by rfl, ?_⟩) ?_ ?_
        rotate_left
        ·intro w'
         go_simp
         with_reducible rfl
        rotate_left
        ·simp only [Act.put, List.setIfInBounds_toArray, List.set_cons_zero, List.set_cons_succ, i64_w, i32_w]
         rfl
        refine pure_ (i := 13) (N := some 22) (v := ?_) (a' := ?_) #[true, true, true, true, true, true, true, true, true, true, true, true, true, true, false, false, false, false, false, false, false, false, false, false, false, false, false, false, false, false] rfl rfl (any_of HT_.out (by kernel_rfl)) (fun _ _ _ h => h) (Or.inl ⟨by rfl, ?_⟩) ?_ ?_
        rotate_left
        ·intro w'
         go_simp
         with_reducible rfl
        rotate_left
        ·simp only [Act.put, List.setIfInBounds_toArray, List.set_cons_zero, List.set_cons_succ, i64_w, i32_w]
         rfl
        refine pure_ (i := 14) (N := some 23) (v := ?_) (a' := ?_) #[true, true, true, true, true, true, true, true, true, true, true, true, true, true, true, false, false, false, false, false, false, false, false, false, false, false, false, false, false, false] rfl rfl (any_of HT_.out (by kernel_rfl)) (fun _ _ _ h => h) (Or.inl ⟨by rfl, ?_⟩) ?_ ?_
        rotate_left
        ·intro w'
         go_simp
         with_reducible rfl
        rotate_left
        ·simp only [Act.put, List.setIfInBounds_toArray, List.set_cons_zero, List.set_cons_succ, i64_w, i32_w]
         rfl
        refine pure_ (i := 15) (N := some 24) (v := ?_) (a' := ?_) #[true, true, true, true, true, true, true, true, true, true, true, true, true, true, true, true, false, false, false, false, false, false, false, false, false, false, false, false, false, false] rfl rfl (any_of HT_.out (by kernel_rfl)) (fun _ _ _ h => h) (Or.inl ⟨by rfl, ?_⟩) ?_ ?_
        rotate_left
        ·intro w'
         go_simp
         with_reducible rfl
        rotate_left
        ·simp only [Act.put, List.setIfInBounds_toArray, List.set_cons_zero, List.set_cons_succ, i64_w, i32_w]
         rfl
        refine pure_ (i := 16) (N := some 25) (v := ?_) (a' := ?_) #[true, true, true, true, true, true, true, true, true, true, true, true, true, true, true, true, true, false, false, false, false, false, false, false, false, false, false, false, false, false] rfl rfl (any_of HT_.out (by kernel_rfl)) (fun _ _ _ h => h) (Or.inl ⟨by rfl, ?_⟩) ?_ ?_
        rotate_left
        ·intro w'
         go_simp
         with_reducible rfl
        rotate_left
        ·simp only [Act.put, List.setIfInBounds_toArray, List.set_cons_zero, List.set_cons_succ, i64_w, i32_w]
         rfl
        refine pure_ (i := 17) (N := some 26) (v := ?_) (a' := ?_) #[true, true, true, true, true, true, true, true, true, true, true, true, true, true, true, true, true, true, false, false, false, false, false, false, false, false, false, false, false, false] rfl rfl (any_of HT_.out (by kernel_rfl)) (fun _ _ _ h => h) (Or.inl ⟨by rfl, ?_⟩) ?_ ?_
        rotate_left
        ·intro w'
         go_simp
         with_reducible rfl
        rotate_left
        ·simp only [Act.put, List.setIfInBounds_toArray, List.set_cons_zero, List.set_cons_succ, i64_w, i32_w]
         rfl
        refine pure_ (i := 18) (N := some 27) (v := ?_) (a' := ?_) #[true, true, true, true, true, true, true, true, true, true, true, true, true, true, true, true, true, true, true, false, false, false, false, false, false, false, false, false, false, false] rfl rfl (any_of HT_.out (by kernel_rfl)) (fun _ _ _ h => h) (Or.inl ⟨by rfl, ?_⟩) ?_ ?_
        rotate_left
        ·intro w'
         go_simp
         with_reducible rfl
        rotate_left
        ·simp only [Act.put, List.setIfInBounds_toArray, List.set_cons_zero, List.set_cons_succ, i64_w, i32_w]
         rfl
        refine pure_ (i := 19) (N := some 28) (v := ?_) (a' := ?_) #[true, true, true, true, true, true, true, true, true, true, true, true, true, true, true, true, true, true, true, true, false, false, false, false, false, false, false, false, false, false] rfl rfl (any_of HT_.out (by kernel_rfl)) (fun _ _ _ h => h) (Or.inl ⟨by rfl, ?_⟩) ?_ ?_
        rotate_left
        ·intro w'
         go_simp
         with_reducible rfl
        rotate_left
        ·simp only [Act.put, List.setIfInBounds_toArray, List.set_cons_zero, List.set_cons_succ, i64_w, i32_w]
         rfl
        refine pure_ (i := 23) (N := some 32) (v := ?_) (a' := ?_) #[true, true, true, true, true, true, true, true, true, true, true, true, true, true, true, true, true, true, true, true, false, false, false, true, false, false, false, false, false, false] rfl rfl (any_of HT_.out (by kernel_rfl)) (fun _ _ _ h => h) (Or.inl ⟨by rfl, ?_⟩) ?_ ?_
        rotate_left
        ·intro w'
         go_simp
         with_reducible rfl
        rotate_left
        ·simp only [Act.put, List.setIfInBounds_toArray, List.set_cons_zero, List.set_cons_succ, i64_w, i32_w]
         rfl
        refine take_ (i := 20) (N := some 29) (v := ?_) (a' := ?_) #[true, true, true, true, true, true, true, true, true, true, true, true, true, true, true, true, true, true, true, true, true, false, false, true, false, false, false, false, false, false] rfl rfl (take_ofW HT_.out HW_.out (by kernel_rfl)) (fun _ _ _ h => h) (Or.inl ⟨by rfl, ?_⟩) hHeld ?_ ?_
        rotate_left
        ·rintro w' ⟨s0, s1, s2, s3, s4⟩
         go_simp
         with_reducible rfl
        rotate_left
        ·simp only [Act.put, List.setIfInBounds_toArray, List.set_cons_zero, List.set_cons_succ, i64_w, i32_w]
         rfl
        refine pure_ (i := 21) (N := some 30) (v := ?_) (a' := ?_) #[true, true, true, true, true, true, true, true, true, true, true, true, true, true, true, true, true, true, true, true, true, true, false, true, false, false, false, false, false, false] rfl rfl (any_of HT_.out (by kernel_rfl)) (fun _ _ _ h => h) (Or.inl ⟨by rfl, ?_⟩) ?_ ?_
        rotate_left
        ·intro w'
         go_simp
         with_reducible rfl
        rotate_left
        ·simp only [Act.put, List.setIfInBounds_toArray, List.set_cons_zero, List.set_cons_succ, i64_w, i32_w]
         rfl
        refine take_ (i := 22) (N := some 31) (v := ?_) (a' := ?_) #[true, true, true, true, true, true, true, true, true, true, true, true, true, true, true, true, true, true, true, true, true, true, true, true, false, false, false, false, false, false] rfl rfl (take_ofW HT_.out HW_.out (by kernel_rfl)) (fun _ _ _ h => h) (Or.inl ⟨by rfl, ?_⟩) hHeld ?_ ?_
        rotate_left
        ·rintro w' ⟨s0, s1, s2, s3, s4⟩
         go_simp
         with_reducible rfl
        rotate_left
        ·simp only [Act.put, List.setIfInBounds_toArray, List.set_cons_zero, List.set_cons_succ, i64_w, i32_w]
         rfl
        refine take_ (i := 24) (N := some 33) (v := ?_) (a' := ?_) #[true, true, true, true, true, true, true, true, true, true, true, true, true, true, true, true, true, true, true, true, true, true, true, true, true, false, false, false, false, false] rfl rfl (take_ofW HT_.out HW_.out (by kernel_rfl)) (fun _ _ _ h => h) (Or.inl ⟨by rfl, ?_⟩) hHeld ?_ ?_
        rotate_left
        ·rintro w' ⟨s0, s1, s2, s3, s4⟩
         go_simp
         with_reducible rfl
        rotate_left
        ·simp only [Act.put, List.setIfInBounds_toArray, List.set_cons_zero, List.set_cons_succ, i64_w, i32_w]
         rfl
        refine pure_ (i := 25) (N := some 34) (v := ?_) (a' := ?_) #[true, true, true, true, true, true, true, true, true, true, true, true, true, true, true, true, true, true, true, true, true, true, true, true, true, true, false, false, false, false] rfl rfl (any_of HT_.out (by kernel_rfl)) (fun _ _ _ h => h) (Or.inl ⟨by rfl, ?_⟩) ?_ ?_
        rotate_left
        ·intro w'
         go_simp
         with_reducible rfl
        rotate_left
        ·simp only [Act.put, List.setIfInBounds_toArray, List.set_cons_zero, List.set_cons_succ, i64_w, i32_w]
         rfl
        refine take_ (i := 26) (N := some 35) (v := ?_) (a' := ?_) #[true, true, true, true, true, true, true, true, true, true, true, true, true, true, true, true, true, true, true, true, true, true, true, true, true, true, true, false, false, false] rfl rfl (take_ofW HT_.out HW_.out (by kernel_rfl)) (fun _ _ _ h => h) (Or.inl ⟨by rfl, ?_⟩) hHeld ?_ ?_
        rotate_left
        ·rintro w' ⟨s0, s1, s2, s3, s4⟩
         go_simp
         with_reducible rfl
        rotate_left
        ·simp only [Act.put, List.setIfInBounds_toArray, List.set_cons_zero, List.set_cons_succ, i64_w, i32_w]
         rfl
        refine pure_ (i := 27) (N := some 36) (v := ?_) (a' := ?_) #[true, true, true, true, true, true, true, true, true, true, true, true, true, true, true, true, true, true, true, true, true, true, true, true, true, true, true, true, false, false] rfl rfl (any_of HT_.out (by kernel_rfl)) (fun _ _ _ h => h) (Or.inl ⟨by rfl, ?_⟩) ?_ ?_
        rotate_left
        ·intro w'
         go_simp
         with_reducible rfl
        rotate_left
        ·simp only [Act.put, List.setIfInBounds_toArray, List.set_cons_zero, List.set_cons_succ, i64_w, i32_w]
         rfl
        refine pure_ (i := 28) (N := some 37) (v := ?_) (a' := ?_) #[true, true, true, true, true, true, true, true, true, true, true, true, true, true, true, true, true, true, true, true, true, true, true, true, true, true, true, true, true, false] rfl rfl (any_of HT_.out (by kernel_rfl)) (fun _ _ _ h => h) (Or.inl ⟨by rfl, ?_⟩) ?_ ?_
        rotate_left
        ·intro w'
         go_simp
         with_reducible rfl
        rotate_left
        ·simp only [Act.put, List.setIfInBounds_toArray, List.set_cons_zero, List.set_cons_succ, i64_w, i32_w]
         rfl
        refine pure_ (i := 29) (N := some 38) (v := ?_) (a' := ?_) #[true, true, true, true, true, true, true, true, true, true, true, true, true, true, true, true, true, true, true, true, true, true, true, true, true, true, true, true, true, true] rfl rfl (any_of HT_.out (by kernel_rfl)) (fun _ _ _ h => h) (Or.inl ⟨by rfl, ?_⟩) ?_ ?_
        rotate_left
        ·intro w'
         go_simp
         with_reducible rfl
        rotate_left
        ·simp only [Act.put, List.setIfInBounds_toArray, List.set_cons_zero, List.set_cons_succ, i64_w, i32_w]
         rfl
        refine done_ (done_of HT_.out (by kernel_rfl)) ?_
        try go_wp2
        go_ret
        exact ⟨rE, bW⟩
       ·rw [if_neg c22] at H
        have c22b0 : ((rd l0_0 0) == (rd l0_0 1)) = false := beq_eq_false_iff_ne.mpr c22
        have c22b1 : ((rd l0_0 0) != (rd l0_0 1)) = true := bne_iff_ne.mpr c22
        replace H := Option.bind_eq_some_iff.mp H
        obtain ⟨t185, A290, H⟩ := H
        replace H : (some t185) = some r := H
        have A29 := Aside0.mk A290
        clear A290
        obtain rfl := Option.some.inj H
        go_enter Try.func124, Try.ntmps124
        try go_wp2_with (first | ((with_reducible refine gate_dst (N := 2) rfl ?_); refine bE (N := 2) (cs := #[.slice A0_0 l0_0.length c0_0, .slice A0_1 l0_1.length c0_1]) (t := 78) ?_; intro gb180 hg w30 hbox hb; have n0_ := Aside0.mk (below_step (w := w) bW hb); have n1_ := Aside0.mk (hbox); have n2_ := Aside0.mk (gS (w := w) hg); have n3_ := n2_; clear HB; have HB := n0_; have BK180 := n1_; have GW180 := n2_; have GE180 := n3_; clear n0_ n1_ n2_ n3_; clear hb hbox hg) | ((with_reducible refine gate_dst (N := 3) rfl ?_); refine bE (N := 3) (cs := #[.int .i64 a1]) (t := 3) ?_; intro gb181 hg w31 hbox hb; have n0_ := Aside0.mk (kb BK180 hb); have n1_ := Aside0.mk (below_step (w := w) bW hb); have n2_ := Aside0.mk (hbox); have n3_ := Aside0.mk (gS (w := w) hg); have n4_ := n3_; have n5_ := Aside0.mk (nL BK180 hg); have n6_ := Aside0.mk (nG BK180 hg); clear BK180; clear HB; have BK180 := n0_; have HB := n1_; have BK181 := n2_; have GW181 := n3_; have GE181 := n4_; have NB180_181 := n5_; have NB181_180 := n6_; clear n0_ n1_ n2_ n3_ n4_ n5_ n6_; clear hb hbox hg; have hnb32 := NB180_181.out; have hnc32 := NB181_180.out; obtain ⟨hcz33_0, hcz33_1⟩ := cz2 BK180; obtain ⟨hfz33_0, hfz33_1⟩ := fz2 BK180))
        have n0_ := Aside0.mk (blk_drew BK180.out)
        have n1_ := Aside0.mk (blk_drew BK181.out)
        have n2_ := Aside0.mk (below_drew1 HB.out)
        clear BK180
        clear BK181
        clear HB
        have BK180 := n0_
        have BK181 := n1_
        have HB := n2_
        clear n0_ n1_ n2_
        have p183 : 0 ≤ (0 : Int) := (by omega)
        have q183 : 0 < (l0_0.length : Int) := odt
        obtain ⟨ad183, e183, hx183_0⟩ := Kd.at_int HR0_0.out 0 p183 q183
        have hw183_0 := hx183_0
        (try rw [show ((0 : Int)).toNat = 0 from rfl] at hw183_0)
        (try rw [show 0 * 1 = 0 from rfl] at hw183_0)
        (try rw [Addr.add_zero'] at hw183_0)
        cases e183
        have qi183 : (0 < l0_0.length) = True := eq_true (by omega)
        (try rw [show ((0 : Int)).toNat = 0 from rfl] at hx183_0)
        (try rw [Addr.add_zero'] at hx183_0)
        replace hx183_0 := (HB.out.cell (World.block_lt_of_cell? w _ hx183_0)).trans hx183_0
        replace p183 := eq_true p183
        replace q183 := eq_true q183
        have p184 : 0 ≤ (1 : Int) := (by omega)
        have q184 : 1 < (l0_0.length : Int) := odt
        obtain ⟨ad184, e184, hx184_0⟩ := Kd.at_int HR0_0.out 1 p184 q184
        have hw184_0 := hx184_0
        (try rw [show ((1 : Int)).toNat = 1 from rfl] at hw184_0)
        (try rw [show 1 * 1 = 1 from rfl] at hw184_0)
        (try simp only [Nat.reduceMul, Nat.reduceEqDiff, Go.Addr.add, ↓reduceIte] at hw184_0)
        obtain rfl : ad183 = ad184 := (by injection e184)
        (try simp only [show (1 : Int).toNat = 1 from rfl, Nat.reduceMul, Nat.reduceEqDiff, Go.Addr.add, ↓reduceIte] at hx184_0)
        have qi184 : (1 < l0_0.length) = True := eq_true (by omega)
        (try rw [show ((1 : Int)).toNat = 1 from rfl] at hx184_0)
        replace hx184_0 := (HB.out.cell (World.block_lt_of_cell? w _ hx184_0)).trans hx184_0
        replace p184 := eq_true p184
        replace q184 := eq_true q184
        refine start_ (n := 30) (S := fun w' => w'.cell? ⟨gb180, 0, none⟩ = some (.slice (some ad183) l0_0.length c0_0) ∧ w'.cell? ⟨gb180, 1, none⟩ = some (.slice A0_1 l0_1.length c0_1) ∧ w'.cell? ⟨gb181, 0, none⟩ = some (.int .i64 a1) ∧ w'.cell? ad183 = some (.int .i64 (rd l0_0 0)) ∧ w'.cell? ⟨ad183.block, ad183.off + 1, none⟩ = some (.int .i64 (rd l0_0 1))) (ds := []) #[false, false, false, false, false, false, false, false, false, false, false, false, false, false, false, false, false, false, false, false, false, false, false, false, false, false, false, false, false, false] (by kernel_rfl) rfl rfl ⟨(blk_cell BK180.out 0).trans rfl, (blk_cell BK180.out 1).trans rfl, (blk_cell BK181.out 0).trans rfl, ((HB.out.cell (World.block_lt_of_cell? w _ hw183_0)).trans hw183_0), ((HB.out.cell (World.block_lt_of_cell? w _ hw184_0)).trans hw184_0)⟩ (fun hHeld => ?_); refine with_tabW impl_Commit_isAt.tab2 impl_Commit_isAt.bits2 (fun HT_ HW_ => ?_)
        generalize w31.drew = w34 at BK180 BK181 HB hx183_0 hx184_0 hHeld ⊢
        refine pure_ (i := 0) (N := some 9) (v := ?_) (a' := ?_) #[true, false, false, false, false, false, false, false, false, false, false, false, false, false, false, false, false, false, false, false, false, false, false, false, false, false, false, false, false, false] rfl rfl (any_of HT_.out (by kernel_rfl)) (fun _ _ _ h => h) (Or.inl ⟨by rfl, ?_⟩) ?_ ?_
        rotate_left
        ·intro w'
         go_simp
         with_reducible rfl
        rotate_left
        ·simp only [Act.put, List.setIfInBounds_toArray, List.set_cons_zero, List.set_cons_succ, i64_w, i32_w]
         rfl
        refine take_ (i := 1) (N := some 10) (v := ?_) (a' := ?_) #[true, true, false, false, false, false, false, false, false, false, false, false, false, false, false, false, false, false, false, false, false, false, false, false, false, false, false, false, false, false] rfl rfl (take_ofW HT_.out HW_.out (by kernel_rfl)) (fun _ _ _ h => h) (Or.inl ⟨by rfl, ?_⟩) hHeld ?_ ?_
        rotate_left
        ·rintro w' ⟨s0, s1, s2, s3, s4⟩
         go_simp
         with_reducible rfl
        rotate_left
        ·simp only [Act.put, List.setIfInBounds_toArray, List.set_cons_zero, List.set_cons_succ, i64_w, i32_w]
         rfl
        refine one_ (i := 2) (N := some 11) #[true, true, true, false, false, false, false, false, false, false, false, false, false, false, false, false, false, false, false, false, false, false, false, false, false, false, false, false, false, false] rfl rfl (one_of HT_.out (by kernel_rfl)) (by decide) (fun K hK => ?_)
        refine goes_ Try.func104 (by kernel_rfl) rfl #[.slice A0_1 l0_1.length c0_1] (by rfl) rfl rfl gA ?_
        with_reducible refine (impl_MapOK.calls k _ _ l0_1 true _ ?side1 ?side2 A3.out).mono ?_
        (case side1 => exact cB HR0_1)
        (case side2 => exact HC0_1.out)
        rintro e w35 ⟨rfl, hb⟩
        refine ⟨_, rfl, ?_⟩
        have n0_ := Aside0.mk (kb BK180 hb)
        have n1_ := Aside0.mk (kb BK181 hb)
        have n2_ := Aside0.mk (below_step (w := w) bW hb)
        clear BK180
        clear BK181
        clear HB
        have BK180 := n0_
        have BK181 := n1_
        have HB := n2_
        clear n0_ n1_ n2_
        (try clear hb)
        (try clear hb2)
        (try clear hk)
        (try clear hi)
        refine hK.out _ _ ⟨(blk_cell BK180.out 0).trans rfl, (blk_cell BK180.out 1).trans rfl, (blk_cell BK181.out 0).trans rfl, ((HB.out.cell (World.block_lt_of_cell? w _ hw183_0)).trans hw183_0), ((HB.out.cell (World.block_lt_of_cell? w _ hw184_0)).trans hw184_0)⟩ (fun hHeld => ?_)
        clear hK K
        refine norm_ (a' := ?_) ?_ ?_
        rotate_left
        ·show Act.put _ (some 11) _ = _
         simp only [Act.put, List.setIfInBounds_toArray, List.set_cons_zero, List.set_cons_succ, i64_w, i32_w]
         rfl
        refine pure_ (i := 3) (N := some 12) (v := ?_) (a' := ?_) #[true, true, true, true, false, false, false, false, false, false, false, false, false, false, false, false, false, false, false, false, false, false, false, false, false, false, false, false, false, false] rfl rfl (any_of HT_.out (by kernel_rfl)) (fun _ _ _ h => h) (Or.inl ⟨by rfl, ?_⟩) ?_ ?_
        rotate_left
        ·intro w'
         go_simp
         with_reducible rfl
        rotate_left
        ·simp only [Act.put, List.setIfInBounds_toArray, List.set_cons_zero, List.set_cons_succ, i64_w, i32_w]
         rfl
        refine pure_ (i := 4) (N := some 13) (v := ?_) (a' := ?_) #[true, true, true, true, true, false, false, false, false, false, false, false, false, false, false, false, false, false, false, false, false, false, false, false, false, false, false, false, false, false] rfl rfl (any_of HT_.out (by kernel_rfl)) (fun _ _ _ h => h) (Or.inl ⟨by rfl, ?_⟩) ?_ ?_
        rotate_left
        ·intro w'
         go_simp
         with_reducible rfl
        rotate_left
        ·simp only [Act.put, List.setIfInBounds_toArray, List.set_cons_zero, List.set_cons_succ, i64_w, i32_w]
         rfl
        refine pure_ (i := 5) (N := some 14) (v := ?_) (a' := ?_) #[true, true, true, true, true, true, false, false, false, false, false, false, false, false, false, false, false, false, false, false, false, false, false, false, false, false, false, false, false, false] rfl rfl (any_of HT_.out (by kernel_rfl)) (fun _ _ _ h => h) (Or.inl ⟨by rfl, ?_⟩) ?_ ?_
        rotate_left
        ·intro w'
         go_simp
         with_reducible rfl
        rotate_left
        ·simp only [Act.put, List.setIfInBounds_toArray, List.set_cons_zero, List.set_cons_succ, i64_w, i32_w]
         rfl
        refine pure_ (i := 6) (N := some 15) (v := ?_) (a' := ?_) #[true, true, true, true, true, true, true, false, false, false, false, false, false, false, false, false, false, false, false, false, false, false, false, false, false, false, false, false, false, false] rfl rfl (any_of HT_.out (by kernel_rfl)) (fun _ _ _ h => h) (Or.inl ⟨by rfl, ?_⟩) ?_ ?_
        rotate_left
        ·intro w'
         go_simp
         with_reducible rfl
        rotate_left
        ·simp only [Act.put, List.setIfInBounds_toArray, List.set_cons_zero, List.set_cons_succ, i64_w, i32_w]
         rfl
        refine pure_ (i := 7) (N := some 16) (v := ?_) (a' := ?_) #[true, true, true, true, true, true, true, true, false, false, false, false, false, false, false, false, false, false, false, false, false, false, false, false, false, false, false, false, false, false] rfl rfl (any_of HT_.out (by kernel_rfl)) (fun _ _ _ h => h) (Or.inl ⟨by rfl, ?_⟩) ?_ ?_
        rotate_left
        ·intro w'
         go_simp
         with_reducible rfl
        rotate_left
        ·simp only [Act.put, List.setIfInBounds_toArray, List.set_cons_zero, List.set_cons_succ, i64_w, i32_w]
         rfl
        refine pure_ (i := 8) (N := some 17) (v := ?_) (a' := ?_) #[true, true, true, true, true, true, true, true, true, false, false, false, false, false, false, false, false, false, false, false, false, false, false, false, false, false, false, false, false, false] rfl rfl (any_of HT_.out (by kernel_rfl)) (fun _ _ _ h => h) (Or.inl ⟨by rfl, ?_⟩) ?_ ?_
        rotate_left
        ·intro w'
         go_simp
         with_reducible rfl
        rotate_left
        ·simp only [Act.put, List.setIfInBounds_toArray, List.set_cons_zero, List.set_cons_succ, i64_w, i32_w]
         rfl
        refine pure_ (i := 9) (N := some 18) (v := ?_) (a' := ?_) #[true, true, true, true, true, true, true, true, true, true, false, false, false, false, false, false, false, false, false, false, false, false, false, false, false, false, false, false, false, false] rfl rfl (any_of HT_.out (by kernel_rfl)) (fun _ _ _ h => h) (Or.inl ⟨by rfl, ?_⟩) ?_ ?_
        rotate_left
        ·intro w'
         go_simp
         with_reducible rfl
        rotate_left
        ·simp only [Act.put, List.setIfInBounds_toArray, List.set_cons_zero, List.set_cons_succ, i64_w, i32_w]
         rfl
        refine pure_ (i := 10) (N := some 19) (v := ?_) (a' := ?_) #[true, true, true, true, true, true, true, true, true, true, true, false, false, false, false, false, false, false, false, false, false, false, false, false, false, false, false, false, false, false] rfl rfl (any_of HT_.out (by kernel_rfl)) (fun _ _ _ h => h) (Or.inl ⟨by rfl, ?_⟩) ?_ ?_
        rotate_left
        ·intro w'
         go_simp
         with_reducible rfl
        rotate_left
        ·simp only [Act.put, List.setIfInBounds_toArray, List.set_cons_zero, List.set_cons_succ, i64_w, i32_w]
         rfl
        refine take_ (i := 11) (N := some 20) (v := ?_) (a' := ?_) #[true, true, true, true, true, true, true, true, true, true, true, true, false, false, false, false, false, false, false, false, false, false, false, false, false, false, false, false, false, false] rfl rfl (take_ofW HT_.out HW_.out (by kernel_rfl)) (fun _ _ _ h => h) (Or.inl ⟨by rfl, ?_⟩) hHeld ?_ ?_
        rotate_left
        ·rintro w' ⟨s0, s1, s2, s3, s4⟩
         go_simp
         with_reducible rfl
        rotate_left
        ·simp only [Act.put, List.setIfInBounds_toArray, List.set_cons_zero, List.set_cons_succ, i64_w, i32_w]
         rfl
        refine pure_ (i := 12) (N := some 21) (v := ?_) (a' := ?_) #[true, true, true, true, true, true, true, true, true, true, true, true, true, false, false, false, false, false, false, false, false, false, false, false, false, false, false, false, false, false] rfl rfl (any_of HT_.out (by kernel_rfl)) (fun _ _ _ h => h) (Or.inl ⟨by rfl, ?_⟩) ?_ ?_
        rotate_left
        ·intro w'
         go_simp
         with_reducible rfl
        rotate_left
        ·simp only [Act.put, List.setIfInBounds_toArray, List.set_cons_zero, List.set_cons_succ, i64_w, i32_w]
         rfl
        refine pure_ (i := 13) (N := some 22) (v := ?_) (a' := ?_) #[true, true, true, true, true, true, true, true, true, true, true, true, true, true, false, false, false, false, false, false, false, false, false, false, false, false, false, false, false, false] rfl rfl (any_of HT_.out (by kernel_rfl)) (fun _ _ _ h => h) (Or.inl ⟨by rfl, ?_⟩) ?_ ?_
        rotate_left
        ·intro w'
         go_simp
         with_reducible rfl
        rotate_left
        ·simp only [Act.put, List.setIfInBounds_toArray, List.set_cons_zero, List.set_cons_succ, i64_w, i32_w]
         rfl
        refine pure_ (i := 14) (N := some 23) (v := ?_) (a' := ?_) #[true, true, true, true, true, true, true, true, true, true, true, true, true, true, true, false, false, false, false, false, false, false, false, false, false, false, false, false, false, false] rfl rfl (any_of HT_.out (by kernel_rfl)) (fun _ _ _ h => h) (Or.inl ⟨by rfl, ?_⟩) ?_ ?_
        rotate_left
        ·intro w'
         go_simp
         with_reducible rfl
        rotate_left
        ·simp only [Act.put, List.setIfInBounds_toArray, List.set_cons_zero, List.set_cons_succ, i64_w, i32_w]
         rfl
        refine pure_ (i := 15) (N := some 24) (v := ?_) (a' := ?_) #[true, true, true, true, true, true, true, true, true, true, true, true, true, true, true, true, false, false, false, false, false, false, false, false, false, false, false, false, false, false] rfl rfl (any_of HT_.out (by kernel_rfl)) (fun _ _ _ h => h) (Or.inl ⟨by rfl, ?_⟩) ?_ ?_
        rotate_left
        ·intro w'
         go_simp
         with_reducible rfl
        rotate_left
        ·simp only [Act.put, List.setIfInBounds_toArray, List.set_cons_zero, List.set_cons_succ, i64_w, i32_w]
         rfl
        refine pure_ (i := 16) (N := some 25) (v := ?_) (a' := ?_) #[true, true, true, true, true, true, true, true, true, true, true, true, true, true, true, true, true, false, false, false, false, false, false, false, false, false, false, false, false, false] rfl rfl (any_of HT_.out (by kernel_rfl)) (fun _ _ _ h => h) (Or.inl ⟨by rfl, ?_⟩) ?_ ?_
        rotate_left
        ·intro w'
         go_simp
         with_reducible rfl
        rotate_left
        ·simp only [Act.put, List.setIfInBounds_toArray, List.set_cons_zero, List.set_cons_succ, i64_w, i32_w]
         rfl
        refine pure_ (i := 17) (N := some 26) (v := ?_) (a' := ?_) #[true, true, true, true, true, true, true, true, true, true, true, true, true, true, true, true, true, true, false, false, false, false, false, false, false, false, false, false, false, false] rfl rfl (any_of HT_.out (by kernel_rfl)) (fun _ _ _ h => h) (Or.inl ⟨by rfl, ?_⟩) ?_ ?_
        rotate_left
        ·intro w'
         go_simp
         with_reducible rfl
        rotate_left
        ·simp only [Act.put, List.setIfInBounds_toArray, List.set_cons_zero, List.set_cons_succ, i64_w, i32_w]
         rfl
        refine pure_ (i := 18) (N := some 27) (v := ?_) (a' := ?_) #[true, true, true, true, true, true, true, true, true, true, true, true, true, true, true, true, true, true, true, false, false, false, false, false, false, false, false, false, false, false] rfl rfl (any_of HT_.out (by kernel_rfl)) (fun _ _ _ h => h) (Or.inl ⟨by rfl, ?_⟩) ?_ ?_
        rotate_left
        ·intro w'
         go_simp
         with_reducible rfl
        rotate_left
        ·simp only [Act.put, List.setIfInBounds_toArray, List.set_cons_zero, List.set_cons_succ, i64_w, i32_w]
         rfl
        refine pure_ (i := 19) (N := some 28) (v := ?_) (a' := ?_) #[true, true, true, true, true, true, true, true, true, true, true, true, true, true, true, true, true, true, true, true, false, false, false, false, false, false, false, false, false, false] rfl rfl (any_of HT_.out (by kernel_rfl)) (fun _ _ _ h => h) (Or.inl ⟨by rfl, ?_⟩) ?_ ?_
        rotate_left
        ·intro w'
         go_simp
         with_reducible rfl
        rotate_left
        ·simp only [Act.put, List.setIfInBounds_toArray, List.set_cons_zero, List.set_cons_succ, i64_w, i32_w]
         rfl
        refine pure_ (i := 23) (N := some 32) (v := ?_) (a' := ?_) #[true, true, true, true, true, true, true, true, true, true, true, true, true, true, true, true, true, true, true, true, false, false, false, true, false, false, false, false, false, false] rfl rfl (any_of HT_.out (by kernel_rfl)) (fun _ _ _ h => h) (Or.inl ⟨by rfl, ?_⟩) ?_ ?_
        rotate_left
        ·intro w'
         go_simp
         with_reducible rfl
        rotate_left
        ·simp only [Act.put, List.setIfInBounds_toArray, List.set_cons_zero, List.set_cons_succ, i64_w, i32_w]
         rfl
        refine take_ (i := 20) (N := some 29) (v := ?_) (a' := ?_) #[true, true, true, true, true, true, true, true, true, true, true, true, true, true, true, true, true, true, true, true, true, false, false, true, false, false, false, false, false, false] rfl rfl (take_ofW HT_.out HW_.out (by kernel_rfl)) (fun _ _ _ h => h) (Or.inl ⟨by rfl, ?_⟩) hHeld ?_ ?_
        rotate_left
        ·rintro w' ⟨s0, s1, s2, s3, s4⟩
         go_simp
         with_reducible rfl
        rotate_left
        ·simp only [Act.put, List.setIfInBounds_toArray, List.set_cons_zero, List.set_cons_succ, i64_w, i32_w]
         rfl
        refine pure_ (i := 21) (N := some 30) (v := ?_) (a' := ?_) #[true, true, true, true, true, true, true, true, true, true, true, true, true, true, true, true, true, true, true, true, true, true, false, true, false, false, false, false, false, false] rfl rfl (any_of HT_.out (by kernel_rfl)) (fun _ _ _ h => h) (Or.inl ⟨by rfl, ?_⟩) ?_ ?_
        rotate_left
        ·intro w'
         go_simp
         with_reducible rfl
        rotate_left
        ·simp only [Act.put, List.setIfInBounds_toArray, List.set_cons_zero, List.set_cons_succ, i64_w, i32_w]
         rfl
        refine take_ (i := 22) (N := some 31) (v := ?_) (a' := ?_) #[true, true, true, true, true, true, true, true, true, true, true, true, true, true, true, true, true, true, true, true, true, true, true, true, false, false, false, false, false, false] rfl rfl (take_ofW HT_.out HW_.out (by kernel_rfl)) (fun _ _ _ h => h) (Or.inl ⟨by rfl, ?_⟩) hHeld ?_ ?_
        rotate_left
        ·rintro w' ⟨s0, s1, s2, s3, s4⟩
         go_simp
         with_reducible rfl
        rotate_left
        ·simp only [Act.put, List.setIfInBounds_toArray, List.set_cons_zero, List.set_cons_succ, i64_w, i32_w]
         rfl
        refine take_ (i := 24) (N := some 33) (v := ?_) (a' := ?_) #[true, true, true, true, true, true, true, true, true, true, true, true, true, true, true, true, true, true, true, true, true, true, true, true, true, false, false, false, false, false] rfl rfl (take_ofW HT_.out HW_.out (by kernel_rfl)) (fun _ _ _ h => h) (Or.inl ⟨by rfl, ?_⟩) hHeld ?_ ?_
        rotate_left
        ·rintro w' ⟨s0, s1, s2, s3, s4⟩
         go_simp
         with_reducible rfl
        rotate_left
        ·simp only [Act.put, List.setIfInBounds_toArray, List.set_cons_zero, List.set_cons_succ, i64_w, i32_w]
         rfl
        refine pure_ (i := 25) (N := some 34) (v := ?_) (a' := ?_) #[true, true, true, true, true, true, true, true, true, true, true, true, true, true, true, true, true, true, true, true, true, true, true, true, true, true, false, false, false, false] rfl rfl (any_of HT_.out (by kernel_rfl)) (fun _ _ _ h => h) (Or.inl ⟨by rfl, ?_⟩) ?_ ?_
        rotate_left
        ·intro w'
         go_simp
         with_reducible rfl
        rotate_left
        ·simp only [Act.put, List.setIfInBounds_toArray, List.set_cons_zero, List.set_cons_succ, i64_w, i32_w]
         rfl
        refine take_ (i := 26) (N := some 35) (v := ?_) (a' := ?_) #[true, true, true, true, true, true, true, true, true, true, true, true, true, true, true, true, true, true, true, true, true, true, true, true, true, true, true, false, false, false] rfl rfl (take_ofW HT_.out HW_.out (by kernel_rfl)) (fun _ _ _ h => h) (Or.inl ⟨by rfl, ?_⟩) hHeld ?_ ?_
        rotate_left
        ·rintro w' ⟨s0, s1, s2, s3, s4⟩
         go_simp
         with_reducible rfl
        rotate_left
        ·simp only [Act.put, List.setIfInBounds_toArray, List.set_cons_zero, List.set_cons_succ, i64_w, i32_w]
         rfl
        refine pure_ (i := 27) (N := some 36) (v := ?_) (a' := ?_) #[true, true, true, true, true, true, true, true, true, true, true, true, true, true, true, true, true, true, true, true, true, true, true, true, true, true, true, true, false, false] rfl rfl (any_of HT_.out (by kernel_rfl)) (fun _ _ _ h => h) (Or.inl ⟨by rfl, ?_⟩) ?_ ?_
        rotate_left
        ·intro w'
         go_simp
         with_reducible rfl
        rotate_left
        ·simp only [Act.put, List.setIfInBounds_toArray, List.set_cons_zero, List.set_cons_succ, i64_w, i32_w]
         rfl
        refine pure_ (i := 28) (N := some 37) (v := ?_) (a' := ?_) #[true, true, true, true, true, true, true, true, true, true, true, true, true, true, true, true, true, true, true, true, true, true, true, true, true, true, true, true, true, false] rfl rfl (any_of HT_.out (by kernel_rfl)) (fun _ _ _ h => h) (Or.inl ⟨by rfl, ?_⟩) ?_ ?_
        rotate_left
        ·intro w'
         go_simp
         with_reducible rfl
        rotate_left
        ·simp only [Act.put, List.setIfInBounds_toArray, List.set_cons_zero, List.set_cons_succ, i64_w, i32_w]
         rfl
        refine pure_ (i := 29) (N := some 38) (v := ?_) (a' := ?_) #[true, true, true, true, true, true, true, true, true, true, true, true, true, true, true, true, true, true, true, true, true, true, true, true, true, true, true, true, true, true] rfl rfl (any_of HT_.out (by kernel_rfl)) (fun _ _ _ h => h) (Or.inl ⟨by rfl, ?_⟩) ?_ ?_
        rotate_left
        ·intro w'
         go_simp
         with_reducible rfl
        rotate_left
        ·simp only [Act.put, List.setIfInBounds_toArray, List.set_cons_zero, List.set_cons_succ, i64_w, i32_w]
         rfl
        refine done_ (done_of HT_.out (by kernel_rfl)) ?_
        have hcz36_0 : w35.cell? ⟨gb180, 0, none⟩ = some (.slice (some ad183) l0_0.length c0_0) := (blk_cell BK180.out 0).trans rfl
        have hcz36_1 : w35.cell? ⟨gb180, 1, none⟩ = some (.slice A0_1 l0_1.length c0_1) := (blk_cell BK180.out 1).trans rfl
        have hfz36_0 := blk_frozen BK180.out 0
        have hfz36_1 := blk_frozen BK180.out 1
        try go_wp2_with (first | ((with_reducible refine gate_callee (f := 120) rfl ?_); refine goesL_ (some 42) rfl rfl Try.func120 (by kernel_rfl) rfl #[.slice (some ad183) l0_0.length c0_0, .func (.func 137) #[] #[.pointer (some ⟨gb181, 0, none⟩)]] rfl gA ?_; (with_reducible refine (areAllint_isAt.calls _ _ l0_0 a1 t185 _ ?side1 ?side2 ?side3 A29.out).mono ?_); (case side1 => exact cB HR0_0); (case side2 => exact HC0_0.out); (case side3 => exact (kB BK181)); rintro e w37 ⟨rfl, hb⟩; refine ⟨_, rfl, ?_⟩; have n0_ := Aside0.mk (kb BK180 hb); have n1_ := Aside0.mk (kb BK181 hb); have n2_ := Aside0.mk (below_step (w := w) bW hb); clear BK180; clear BK181; clear HB; have BK180 := n0_; have BK181 := n1_; have HB := n2_; clear n0_ n1_ n2_; (try clear hb); (try clear hb2); (try clear hk); (try clear hi)))
        go_ret
        exact ⟨rE, bW⟩
      ·rw [if_neg c21] at H
       exact absurd H (by simp)
     ·rw [if_neg c20] at H
      exact absurd H (by simp)
    ·rw [if_neg c19] at H
     have c19b0 : ((l0_0.length : Int) == 2) = false := beq_eq_false_iff_ne.mpr c19
     have c19b1 : ((l0_0.length : Int) != 2) = true := bne_iff_ne.mpr c19
     replace H := Option.bind_eq_some_iff.mp H
     obtain ⟨t186, A380, H⟩ := H
     replace H : (some t186) = some r := H
     have A38 := Aside0.mk A380
     clear A380
     obtain rfl := Option.some.inj H
     go_enter Try.func124, Try.ntmps124
     try go_wp2_with (first | ((with_reducible refine gate_dst (N := 2) rfl ?_); refine bE (N := 2) (cs := #[.slice A0_0 l0_0.length c0_0, .slice A0_1 l0_1.length c0_1]) (t := 78) ?_; intro gb180 hg w39 hbox hb; have n0_ := Aside0.mk (below_step (w := w) bW hb); have n1_ := Aside0.mk (hbox); have n2_ := Aside0.mk (gS (w := w) hg); have n3_ := n2_; clear HB; have HB := n0_; have BK180 := n1_; have GW180 := n2_; have GE180 := n3_; clear n0_ n1_ n2_ n3_; clear hb hbox hg) | ((with_reducible refine gate_dst (N := 3) rfl ?_); refine bE (N := 3) (cs := #[.int .i64 a1]) (t := 3) ?_; intro gb181 hg w40 hbox hb; have n0_ := Aside0.mk (kb BK180 hb); have n1_ := Aside0.mk (below_step (w := w) bW hb); have n2_ := Aside0.mk (hbox); have n3_ := Aside0.mk (gS (w := w) hg); have n4_ := n3_; have n5_ := Aside0.mk (nL BK180 hg); have n6_ := Aside0.mk (nG BK180 hg); clear BK180; clear HB; have BK180 := n0_; have HB := n1_; have BK181 := n2_; have GW181 := n3_; have GE181 := n4_; have NB180_181 := n5_; have NB181_180 := n6_; clear n0_ n1_ n2_ n3_ n4_ n5_ n6_; clear hb hbox hg; have hnb41 := NB180_181.out; have hnc41 := NB181_180.out; obtain ⟨hcz42_0, hcz42_1⟩ := cz2 BK180; obtain ⟨hfz42_0, hfz42_1⟩ := fz2 BK180))
     have n0_ := Aside0.mk (blk_drew BK180.out)
     have n1_ := Aside0.mk (blk_drew BK181.out)
     have n2_ := Aside0.mk (below_drew1 HB.out)
     clear BK180
     clear BK181
     clear HB
     have BK180 := n0_
     have BK181 := n1_
     have HB := n2_
     clear n0_ n1_ n2_
     refine start_ (n := 30) (S := fun w' => w'.cell? ⟨gb180, 0, none⟩ = some (.slice A0_0 l0_0.length c0_0) ∧ w'.cell? ⟨gb180, 1, none⟩ = some (.slice A0_1 l0_1.length c0_1) ∧ w'.cell? ⟨gb181, 0, none⟩ = some (.int .i64 a1)) (ds := []) #[false, false, false, false, false, false, false, false, false, false, false, false, false, false, false, false, false, false, false, false, false, false, false, false, false, false, false, false, false, false] (by kernel_rfl) rfl rfl ⟨(blk_cell BK180.out 0).trans rfl, (blk_cell BK180.out 1).trans rfl, (blk_cell BK181.out 0).trans rfl⟩ (fun hHeld => ?_); refine with_tabW impl_Commit_isAt.tab2 impl_Commit_isAt.bits2 (fun HT_ HW_ => ?_)
     generalize w40.drew = w43 at BK180 BK181 HB hHeld ⊢
     refine pure_ (i := 0) (N := some 9) (v := ?_) (a' := ?_) #[true, false, false, false, false, false, false, false, false, false, false, false, false, false, false, false, false, false, false, false, false, false, false, false, false, false, false, false, false, false] rfl rfl (any_of HT_.out (by kernel_rfl)) (fun _ _ _ h => h) (Or.inl ⟨by rfl, ?_⟩) ?_ ?_
     rotate_left
     ·intro w'
      go_simp
      with_reducible rfl
     rotate_left
     ·simp only [Act.put, List.setIfInBounds_toArray, List.set_cons_zero, List.set_cons_succ, i64_w, i32_w]
      rfl
     refine take_ (i := 1) (N := some 10) (v := ?_) (a' := ?_) #[true, true, false, false, false, false, false, false, false, false, false, false, false, false, false, false, false, false, false, false, false, false, false, false, false, false, false, false, false, false] rfl rfl (take_ofW HT_.out HW_.out (by kernel_rfl)) (fun _ _ _ h => h) (Or.inl ⟨by rfl, ?_⟩) hHeld ?_ ?_
     rotate_left
     ·rintro w' ⟨s0, s1, s2⟩
      go_simp
      with_reducible rfl
     rotate_left
     ·simp only [Act.put, List.setIfInBounds_toArray, List.set_cons_zero, List.set_cons_succ, i64_w, i32_w]
      rfl
     refine one_ (i := 2) (N := some 11) #[true, true, true, false, false, false, false, false, false, false, false, false, false, false, false, false, false, false, false, false, false, false, false, false, false, false, false, false, false, false] rfl rfl (one_of HT_.out (by kernel_rfl)) (by decide) (fun K hK => ?_)
     refine goes_ Try.func104 (by kernel_rfl) rfl #[.slice A0_1 l0_1.length c0_1] (by rfl) rfl rfl gA ?_
     with_reducible refine (impl_MapOK.calls k _ _ l0_1 true _ ?side1 ?side2 A3.out).mono ?_
     (case side1 => exact cB HR0_1)
     (case side2 => exact HC0_1.out)
     rintro e w44 ⟨rfl, hb⟩
     refine ⟨_, rfl, ?_⟩
     have n0_ := Aside0.mk (kb BK180 hb)
     have n1_ := Aside0.mk (kb BK181 hb)
     have n2_ := Aside0.mk (below_step (w := w) bW hb)
     clear BK180
     clear BK181
     clear HB
     have BK180 := n0_
     have BK181 := n1_
     have HB := n2_
     clear n0_ n1_ n2_
     (try clear hb)
     (try clear hb2)
     (try clear hk)
     (try clear hi)
     refine hK.out _ _ ⟨(blk_cell BK180.out 0).trans rfl, (blk_cell BK180.out 1).trans rfl, (blk_cell BK181.out 0).trans rfl⟩ (fun hHeld => ?_)
     clear hK K
     refine norm_ (a' := ?_) ?_ ?_
     rotate_left
     ·show Act.put _ (some 11) _ = _
      simp only [Act.put, List.setIfInBounds_toArray, List.set_cons_zero, List.set_cons_succ, i64_w, i32_w]
      rfl
     refine pure_ (i := 3) (N := some 12) (v := ?_) (a' := ?_) #[true, true, true, true, false, false, false, false, false, false, false, false, false, false, false, false, false, false, false, false, false, false, false, false, false, false, false, false, false, false] rfl rfl (any_of HT_.out (by kernel_rfl)) (fun _ _ _ h => h) (Or.inl ⟨by rfl, ?_⟩) ?_ ?_
     rotate_left
     ·intro w'
      go_simp
      with_reducible rfl
     rotate_left
     ·simp only [Act.put, List.setIfInBounds_toArray, List.set_cons_zero, List.set_cons_succ, i64_w, i32_w]
      rfl
     refine pure_ (i := 4) (N := some 13) (v := ?_) (a' := ?_) #[true, true, true, true, true, false, false, false, false, false, false, false, false, false, false, false, false, false, false, false, false, false, false, false, false, false, false, false, false, false] rfl rfl (any_of HT_.out (by kernel_rfl)) (fun _ _ _ h => h) (Or.inl ⟨by rfl, ?_⟩) ?_ ?_
     rotate_left
     ·intro w'
      go_simp
      with_reducible rfl
     rotate_left
     ·simp only [Act.put, List.setIfInBounds_toArray, List.set_cons_zero, List.set_cons_succ, i64_w, i32_w]
      rfl
     refine pure_ (i := 5) (N := some 14) (v := ?_) (a' := ?_) #[true, true, true, true, true, true, false, false, false, false, false, false, false, false, false, false, false, false, false, false, false, false, false, false, false, false, false, false, false, false] rfl rfl (any_of HT_.out (by kernel_rfl)) (fun _ _ _ h => h) (Or.inl ⟨by rfl, ?_⟩) ?_ ?_
     rotate_left
     ·intro w'
      go_simp
      with_reducible rfl
     rotate_left
     ·simp only [Act.put, List.setIfInBounds_toArray, List.set_cons_zero, List.set_cons_succ, i64_w, i32_w]
      rfl
     refine pure_ (i := 6) (N := some 15) (v := ?_) (a' := ?_) #[true, true, true, true, true, true, true, false, false, false, false, false, false, false, false, false, false, false, false, false, false, false, false, false, false, false, false, false, false, false] rfl rfl (any_of HT_.out (by kernel_rfl)) (fun _ _ _ h => h) (Or.inl ⟨by rfl, ?_⟩) ?_ ?_
     rotate_left
     ·intro w'
      go_simp
      with_reducible rfl
     rotate_left
     ·simp only [Act.put, List.setIfInBounds_toArray, List.set_cons_zero, List.set_cons_succ, i64_w, i32_w]
      rfl
     refine pure_ (i := 7) (N := some 16) (v := ?_) (a' := ?_) #[true, true, true, true, true, true, true, true, false, false, false, false, false, false, false, false, false, false, false, false, false, false, false, false, false, false, false, false, false, false] rfl rfl (any_of HT_.out (by kernel_rfl)) (fun _ _ _ h => h) (Or.inl ⟨by rfl, ?_⟩) ?_ ?_
     rotate_left
     ·intro w'
      go_simp
      with_reducible rfl
     rotate_left
     ·simp only [Act.put, List.setIfInBounds_toArray, List.set_cons_zero, List.set_cons_succ, i64_w, i32_w]
      rfl
     refine pure_ (i := 8) (N := some 17) (v := ?_) (a' := ?_) #[true, true, true, true, true, true, true, true, true, false, false, false, false, false, false, false, false, false, false, false, false, false, false, false, false, false, false, false, false, false] rfl rfl (any_of HT_.out (by kernel_rfl)) (fun _ _ _ h => h) (Or.inl ⟨by rfl, ?_⟩) ?_ ?_
     rotate_left
     ·intro w'
      go_simp
      with_reducible rfl
     rotate_left
     ·simp only [Act.put, List.setIfInBounds_toArray, List.set_cons_zero, List.set_cons_succ, i64_w, i32_w]
      rfl
     refine pure_ (i := 9) (N := some 18) (v := ?_) (a' := ?_) #[true, true, true, true, true, true, true, true, true, true, false, false, false, false, false, false, false, false, false, false, false, false, false, false, false, false, false, false, false, false] rfl rfl (any_of HT_.out (by kernel_rfl)) (fun _ _ _ h => h) (Or.inl ⟨by rfl, ?_⟩) ?_ ?_
     rotate_left
     ·intro w'
      go_simp
      with_reducible rfl
     rotate_left
     ·simp only [Act.put, List.setIfInBounds_toArray, List.set_cons_zero, List.set_cons_succ, i64_w, i32_w]
      rfl
     refine pure_ (i := 10) (N := some 19) (v := ?_) (a' := ?_) #[true, true, true, true, true, true, true, true, true, true, true, false, false, false, false, false, false, false, false, false, false, false, false, false, false, false, false, false, false, false] rfl rfl (any_of HT_.out (by kernel_rfl)) (fun _ _ _ h => h) (Or.inl ⟨by rfl, ?_⟩) ?_ ?_
     rotate_left
     ·intro w'
      go_simp
      with_reducible rfl
     rotate_left
     ·simp only [Act.put, List.setIfInBounds_toArray, List.set_cons_zero, List.set_cons_succ, i64_w, i32_w]
      rfl
     refine take_ (i := 11) (N := some 20) (v := ?_) (a' := ?_) #[true, true, true, true, true, true, true, true, true, true, true, true, false, false, false, false, false, false, false, false, false, false, false, false, false, false, false, false, false, false] rfl rfl (take_ofW HT_.out HW_.out (by kernel_rfl)) (fun _ _ _ h => h) (Or.inl ⟨by rfl, ?_⟩) hHeld ?_ ?_
     rotate_left
     ·rintro w' ⟨s0, s1, s2⟩
      go_simp
      with_reducible rfl
     rotate_left
     ·simp only [Act.put, List.setIfInBounds_toArray, List.set_cons_zero, List.set_cons_succ, i64_w, i32_w]
      rfl
     refine pure_ (i := 12) (N := some 21) (v := ?_) (a' := ?_) #[true, true, true, true, true, true, true, true, true, true, true, true, true, false, false, false, false, false, false, false, false, false, false, false, false, false, false, false, false, false] rfl rfl (any_of HT_.out (by kernel_rfl)) (fun _ _ _ h => h) (Or.inl ⟨by rfl, ?_⟩) ?_ ?_
     rotate_left
     ·intro w'
      go_simp
      with_reducible rfl
     rotate_left
     ·simp only [Act.put, List.setIfInBounds_toArray, List.set_cons_zero, List.set_cons_succ, i64_w, i32_w]
      rfl
     refine pure_ (i := 13) (N := some 22) (v := ?_) (a' := ?_) #[true, true, true, true, true, true, true, true, true, true, true, true, true, true, false, false, false, false, false, false, false, false, false, false, false, false, false, false, false, false] rfl rfl (any_of HT_.out (by kernel_rfl)) (fun _ _ _ h => h) (Or.inl ⟨by rfl, ?_⟩) ?_ ?_
     rotate_left
     ·intro w'
      go_simp
      with_reducible rfl
     rotate_left
     ·simp only [Act.put, List.setIfInBounds_toArray, List.set_cons_zero, List.set_cons_succ, i64_w, i32_w]
      rfl
     refine pure_ (i := 14) (N := some 23) (v := ?_) (a' := ?_) #[true, true, true, true, true, true, true, true, true, true, true, true, true, true, true, false, false, false, false, false, false, false, false, false, false, false, false, false, false, false] rfl rfl (any_of HT_.out (by kernel_rfl)) (fun _ _ _ h => h) (Or.inl ⟨by rfl, ?_⟩) ?_ ?_
     rotate_left
     ·intro w'
      go_simp
      with_reducible rfl
     rotate_left
     ·simp only [Act.put, List.setIfInBounds_toArray, List.set_cons_zero, List.set_cons_succ, i64_w, i32_w]
      rfl
     refine pure_ (i := 15) (N := some 24) (v := ?_) (a' := ?_) #[true, true, true, true, true, true, true, true, true, true, true, true, true, true, true, true, false, false, false, false, false, false, false, false, false, false, false, false, false, false] rfl rfl (any_of HT_.out (by kernel_rfl)) (fun _ _ _ h => h) (Or.inl ⟨by rfl, ?_⟩) ?_ ?_
     rotate_left
     ·intro w'
      go_simp
      with_reducible rfl
     rotate_left
     ·simp only [Act.put, List.setIfInBounds_toArray, List.set_cons_zero, List.set_cons_succ, i64_w, i32_w]
      rfl
     refine pure_ (i := 16) (N := some 25) (v := ?_) (a' := ?_) #[true, true, true, true, true, true, true, true, true, true, true, true, true, true, true, true, true, false, false, false, false, false, false, false, false, false, false, false, false, false] rfl rfl (any_of HT_.out (by kernel_rfl)) (fun _ _ _ h => h) (Or.inl ⟨by rfl, ?_⟩) ?_ ?_
     rotate_left
     ·intro w'
      go_simp
      with_reducible rfl
     rotate_left
     ·simp only [Act.put, List.setIfInBounds_toArray, List.set_cons_zero, List.set_cons_succ, i64_w, i32_w]
      rfl
     refine pure_ (i := 17) (N := some 26) (v := ?_) (a' := ?_) #[true, true, true, true, true, true, true, true, true, true, true, true, true, true, true, true, true, true, false, false, false, false, false, false, false, false, false, false, false, false] rfl rfl (any_of HT_.out (by kernel_rfl)) (fun _ _ _ h => h) (Or.inl ⟨by rfl, ?_⟩) ?_ ?_
     rotate_left
     ·intro w'
      go_simp
      with_reducible rfl
     rotate_left
     ·simp only [Act.put, List.setIfInBounds_toArray, List.set_cons_zero, List.set_cons_succ, i64_w, i32_w]
      rfl
     refine pure_ (i := 18) (N := some 27) (v := ?_) (a' := ?_) #[true, true, true, true, true, true, true, true, true, true, true, true, true, true, true, true, true, true, true, false, false, false, false, false, false, false, false, false, false, false] rfl rfl (any_of HT_.out (by kernel_rfl)) (fun _ _ _ h => h) (Or.inl ⟨by rfl, ?_⟩) ?_ ?_
     rotate_left
     ·intro w'
      go_simp
      with_reducible rfl
     rotate_left
     ·simp only [Act.put, List.setIfInBounds_toArray, List.set_cons_zero, List.set_cons_succ, i64_w, i32_w]
      rfl
     refine pure_ (i := 19) (N := some 28) (v := undef) (a' := ?_) #[true, true, true, true, true, true, true, true, true, true, true, true, true, true, true, true, true, true, true, true, false, false, false, false, false, false, false, false, false, false] rfl rfl (any_of HT_.out (by kernel_rfl)) (fun _ _ _ h => h) (Or.inr ⟨by rfl, rfl⟩) ?_ ?_
     rotate_left
     ·simp only [Act.put, List.setIfInBounds_toArray, List.set_cons_zero, List.set_cons_succ, i64_w, i32_w]
      rfl
     refine pure_ (i := 20) (N := some 29) (v := undef) (a' := ?_) #[true, true, true, true, true, true, true, true, true, true, true, true, true, true, true, true, true, true, true, true, true, false, false, false, false, false, false, false, false, false] rfl rfl (any_of HT_.out (by kernel_rfl)) (fun _ _ _ h => h) (Or.inr ⟨by rfl, rfl⟩) ?_ ?_
     rotate_left
     ·simp only [Act.put, List.setIfInBounds_toArray, List.set_cons_zero, List.set_cons_succ, i64_w, i32_w]
      rfl
     refine pure_ (i := 21) (N := some 30) (v := undef) (a' := ?_) #[true, true, true, true, true, true, true, true, true, true, true, true, true, true, true, true, true, true, true, true, true, true, false, false, false, false, false, false, false, false] rfl rfl (any_of HT_.out (by kernel_rfl)) (fun _ _ _ h => h) (Or.inr ⟨by rfl, rfl⟩) ?_ ?_
     rotate_left
     ·simp only [Act.put, List.setIfInBounds_toArray, List.set_cons_zero, List.set_cons_succ, i64_w, i32_w]
      rfl
     refine pure_ (i := 22) (N := some 31) (v := undef) (a' := ?_) #[true, true, true, true, true, true, true, true, true, true, true, true, true, true, true, true, true, true, true, true, true, true, true, false, false, false, false, false, false, false] rfl rfl (any_of HT_.out (by kernel_rfl)) (fun _ _ _ h => h) (Or.inr ⟨by rfl, rfl⟩) ?_ ?_
     rotate_left
     ·simp only [Act.put, List.setIfInBounds_toArray, List.set_cons_zero, List.set_cons_succ, i64_w, i32_w]
      rfl
     refine pure_ (i := 23) (N := some 32) (v := undef) (a' := ?_) #[true, true, true, true, true, true, true, true, true, true, true, true, true, true, true, true, true, true, true, true, true, true, true, true, false, false, false, false, false, false] rfl rfl (any_of HT_.out (by kernel_rfl)) (fun _ _ _ h => h) (Or.inr ⟨by rfl, rfl⟩) ?_ ?_
     rotate_left
     ·simp only [Act.put, List.setIfInBounds_toArray, List.set_cons_zero, List.set_cons_succ, i64_w, i32_w]
      rfl
     refine pure_ (i := 24) (N := some 33) (v := undef) (a' := ?_) #[true, true, true, true, true, true, true, true, true, true, true, true, true, true, true, true, true, true, true, true, true, true, true, true, true, false, false, false, false, false] rfl rfl (any_of HT_.out (by kernel_rfl)) (fun _ _ _ h => h) (Or.inr ⟨by rfl, rfl⟩) ?_ ?_
     rotate_left
     ·simp only [Act.put, List.setIfInBounds_toArray, List.set_cons_zero, List.set_cons_succ, i64_w, i32_w]
      rfl
     refine pure_ (i := 25) (N := some 34) (v := undef) (a' := ?_) #[true, true, true, true, true, true, true, true, true, true, true, true, true, true, true, true, true, true, true, true, true, true, true, true, true, true, false, false, false, false] rfl rfl (any_of HT_.out (by kernel_rfl)) (fun _ _ _ h => h) (Or.inr ⟨by rfl, rfl⟩) ?_ ?_
     rotate_left
     ·simp only [Act.put, List.setIfInBounds_toArray, List.set_cons_zero, List.set_cons_succ, i64_w, i32_w]
      rfl
     refine pure_ (i := 26) (N := some 35) (v := undef) (a' := ?_) #[true, true, true, true, true, true, true, true, true, true, true, true, true, true, true, true, true, true, true, true, true, true, true, true, true, true, true, false, false, false] rfl rfl (any_of HT_.out (by kernel_rfl)) (fun _ _ _ h => h) (Or.inr ⟨by rfl, rfl⟩) ?_ ?_
     rotate_left
     ·simp only [Act.put, List.setIfInBounds_toArray, List.set_cons_zero, List.set_cons_succ, i64_w, i32_w]
      rfl
     refine pure_ (i := 27) (N := some 36) (v := undef) (a' := ?_) #[true, true, true, true, true, true, true, true, true, true, true, true, true, true, true, true, true, true, true, true, true, true, true, true, true, true, true, true, false, false] rfl rfl (any_of HT_.out (by kernel_rfl)) (fun _ _ _ h => h) (Or.inr ⟨by rfl, rfl⟩) ?_ ?_
     rotate_left
     ·simp only [Act.put, List.setIfInBounds_toArray, List.set_cons_zero, List.set_cons_succ, i64_w, i32_w]
      rfl
     refine pure_ (i := 28) (N := some 37) (v := ?_) (a' := ?_) #[true, true, true, true, true, true, true, true, true, true, true, true, true, true, true, true, true, true, true, true, true, true, true, true, true, true, true, true, true, false] rfl rfl (any_of HT_.out (by kernel_rfl)) (fun _ _ _ h => h) (Or.inl ⟨by rfl, ?_⟩) ?_ ?_
     rotate_left
     ·intro w'
      go_simp
      with_reducible rfl
     rotate_left
     ·simp only [Act.put, List.setIfInBounds_toArray, List.set_cons_zero, List.set_cons_succ, i64_w, i32_w]
      rfl
     refine pure_ (i := 29) (N := some 38) (v := ?_) (a' := ?_) #[true, true, true, true, true, true, true, true, true, true, true, true, true, true, true, true, true, true, true, true, true, true, true, true, true, true, true, true, true, true] rfl rfl (any_of HT_.out (by kernel_rfl)) (fun _ _ _ h => h) (Or.inl ⟨by rfl, ?_⟩) ?_ ?_
     rotate_left
     ·intro w'
      go_simp
      with_reducible rfl
     rotate_left
     ·simp only [Act.put, List.setIfInBounds_toArray, List.set_cons_zero, List.set_cons_succ, i64_w, i32_w]
      rfl
     refine done_ (done_of HT_.out (by kernel_rfl)) ?_
     have hcz45_0 : w44.cell? ⟨gb180, 0, none⟩ = some (.slice A0_0 l0_0.length c0_0) := (blk_cell BK180.out 0).trans rfl
     have hcz45_1 : w44.cell? ⟨gb180, 1, none⟩ = some (.slice A0_1 l0_1.length c0_1) := (blk_cell BK180.out 1).trans rfl
     have hfz45_0 := blk_frozen BK180.out 0
     have hfz45_1 := blk_frozen BK180.out 1
     try go_wp2_with (first | ((with_reducible refine gate_callee (f := 120) rfl ?_); refine goesL_ (some 42) rfl rfl Try.func120 (by kernel_rfl) rfl #[.slice A0_0 l0_0.length c0_0, .func (.func 137) #[] #[.pointer (some ⟨gb181, 0, none⟩)]] rfl gA ?_; (with_reducible refine (areAllint_isAt.calls _ _ l0_0 a1 t186 _ ?side1 ?side2 ?side3 A38.out).mono ?_); (case side1 => exact cB HR0_0); (case side2 => exact HC0_0.out); (case side3 => exact (kB BK181)); rintro e w46 ⟨rfl, hb⟩; refine ⟨_, rfl, ?_⟩; have n0_ := Aside0.mk (kb BK180 hb); have n1_ := Aside0.mk (kb BK181 hb); have n2_ := Aside0.mk (below_step (w := w) bW hb); clear BK180; clear BK181; clear HB; have BK180 := n0_; have BK181 := n1_; have HB := n2_; clear n0_ n1_ n2_; (try clear hb); (try clear hb2); (try clear hk); (try clear hi)))
     go_ret
     exact ⟨rE, bW⟩
 ·replace c4 := Bool.eq_false_iff.mpr c4
  subst c4
  have H1 : (some false) = some r := by rw [if_neg (show ¬ (false = true) by decide)] at H; exact H
  clear H
  have H := H1
  clear H1
  obtain rfl := Option.some.inj H
  go_enter Try.func124, Try.ntmps124
  try go_wp2_with (first | ((with_reducible refine gate_dst (N := 2) rfl ?_); refine bE (N := 2) (cs := #[.slice A0_0 l0_0.length c0_0, .slice A0_1 l0_1.length c0_1]) (t := 78) ?_; intro gb180 hg w47 hbox hb; have n0_ := Aside0.mk (below_step (w := w) bW hb); have n1_ := Aside0.mk (hbox); have n2_ := Aside0.mk (gS (w := w) hg); have n3_ := n2_; clear HB; have HB := n0_; have BK180 := n1_; have GW180 := n2_; have GE180 := n3_; clear n0_ n1_ n2_ n3_; clear hb hbox hg) | ((with_reducible refine gate_dst (N := 3) rfl ?_); refine bE (N := 3) (cs := #[.int .i64 a1]) (t := 3) ?_; intro gb181 hg w48 hbox hb; have n0_ := Aside0.mk (kb BK180 hb); have n1_ := Aside0.mk (below_step (w := w) bW hb); have n2_ := Aside0.mk (hbox); have n3_ := Aside0.mk (gS (w := w) hg); have n4_ := n3_; have n5_ := Aside0.mk (nL BK180 hg); have n6_ := Aside0.mk (nG BK180 hg); clear BK180; clear HB; have BK180 := n0_; have HB := n1_; have BK181 := n2_; have GW181 := n3_; have GE181 := n4_; have NB180_181 := n5_; have NB181_180 := n6_; clear n0_ n1_ n2_ n3_ n4_ n5_ n6_; clear hb hbox hg; have hnb49 := NB180_181.out; have hnc49 := NB181_180.out; obtain ⟨hcz50_0, hcz50_1⟩ := cz2 BK180; obtain ⟨hfz50_0, hfz50_1⟩ := fz2 BK180))
  have n0_ := Aside0.mk (blk_drew BK180.out)
  have n1_ := Aside0.mk (blk_drew BK181.out)
  have n2_ := Aside0.mk (below_drew1 HB.out)
  clear BK180
  clear BK181
  clear HB
  have BK180 := n0_
  have BK181 := n1_
  have HB := n2_
  clear n0_ n1_ n2_
  refine start_ (n := 30) (S := fun w' => w'.cell? ⟨gb180, 0, none⟩ = some (.slice A0_0 l0_0.length c0_0) ∧ w'.cell? ⟨gb180, 1, none⟩ = some (.slice A0_1 l0_1.length c0_1)) (ds := []) #[false, false, false, false, false, false, false, false, false, false, false, false, false, false, false, false, false, false, false, false, false, false, false, false, false, false, false, false, false, false] (by kernel_rfl) rfl rfl ⟨(blk_cell BK180.out 0).trans rfl, (blk_cell BK180.out 1).trans rfl⟩ (fun hHeld => ?_); refine with_tabW impl_Commit_isAt.tab2 impl_Commit_isAt.bits2 (fun HT_ HW_ => ?_)
  generalize w48.drew = w51 at BK180 BK181 HB hHeld ⊢
  refine pure_ (i := 0) (N := some 9) (v := ?_) (a' := ?_) #[true, false, false, false, false, false, false, false, false, false, false, false, false, false, false, false, false, false, false, false, false, false, false, false, false, false, false, false, false, false] rfl rfl (any_of HT_.out (by kernel_rfl)) (fun _ _ _ h => h) (Or.inl ⟨by rfl, ?_⟩) ?_ ?_
  rotate_left
  ·intro w'
   go_simp
   with_reducible rfl
  rotate_left
  ·simp only [Act.put, List.setIfInBounds_toArray, List.set_cons_zero, List.set_cons_succ, i64_w, i32_w]
   rfl
  refine take_ (i := 1) (N := some 10) (v := ?_) (a' := ?_) #[true, true, false, false, false, false, false, false, false, false, false, false, false, false, false, false, false, false, false, false, false, false, false, false, false, false, false, false, false, false] rfl rfl (take_ofW HT_.out HW_.out (by kernel_rfl)) (fun _ _ _ h => h) (Or.inl ⟨by rfl, ?_⟩) hHeld ?_ ?_
  rotate_left
  ·rintro w' ⟨s0, s1⟩
   go_simp
   with_reducible rfl
  rotate_left
  ·simp only [Act.put, List.setIfInBounds_toArray, List.set_cons_zero, List.set_cons_succ, i64_w, i32_w]
   rfl
  refine one_ (i := 2) (N := some 11) #[true, true, true, false, false, false, false, false, false, false, false, false, false, false, false, false, false, false, false, false, false, false, false, false, false, false, false, false, false, false] rfl rfl (one_of HT_.out (by kernel_rfl)) (by decide) (fun K hK => ?_)
  refine goes_ Try.func104 (by kernel_rfl) rfl #[.slice A0_1 l0_1.length c0_1] (by rfl) rfl rfl gA ?_
  with_reducible refine (impl_MapOK.calls k _ _ l0_1 false _ ?side1 ?side2 A3.out).mono ?_
  (case side1 => exact cB HR0_1)
  (case side2 => exact HC0_1.out)
  rintro e w52 ⟨rfl, hb⟩
  refine ⟨_, rfl, ?_⟩
  have n0_ := Aside0.mk (kb BK180 hb)
  have n1_ := Aside0.mk (kb BK181 hb)
  have n2_ := Aside0.mk (below_step (w := w) bW hb)
  clear BK180
  clear BK181
  clear HB
  have BK180 := n0_
  have BK181 := n1_
  have HB := n2_
  clear n0_ n1_ n2_
  (try clear hb)
  (try clear hb2)
  (try clear hk)
  (try clear hi)
  refine hK.out _ _ ⟨(blk_cell BK180.out 0).trans rfl, (blk_cell BK180.out 1).trans rfl⟩ (fun hHeld => ?_)
  clear hK K
  refine norm_ (a' := ?_) ?_ ?_
  rotate_left
  ·show Act.put _ (some 11) _ = _
   simp only [Act.put, List.setIfInBounds_toArray, List.set_cons_zero, List.set_cons_succ, i64_w, i32_w]
   rfl
  refine pure_ (i := 3) (N := some 12) (v := ?_) (a' := ?_) #[true, true, true, true, false, false, false, false, false, false, false, false, false, false, false, false, false, false, false, false, false, false, false, false, false, false, false, false, false, false] rfl rfl (any_of HT_.out (by kernel_rfl)) (fun _ _ _ h => h) (Or.inl ⟨by rfl, ?_⟩) ?_ ?_
  rotate_left
  ·intro w'
   go_simp
   with_reducible rfl
  rotate_left
  ·simp only [Act.put, List.setIfInBounds_toArray, List.set_cons_zero, List.set_cons_succ, i64_w, i32_w]
   rfl
  refine pure_ (i := 4) (N := some 13) (v := ?_) (a' := ?_) #[true, true, true, true, true, false, false, false, false, false, false, false, false, false, false, false, false, false, false, false, false, false, false, false, false, false, false, false, false, false] rfl rfl (any_of HT_.out (by kernel_rfl)) (fun _ _ _ h => h) (Or.inl ⟨by rfl, ?_⟩) ?_ ?_
  rotate_left
  ·intro w'
   go_simp
   with_reducible rfl
  rotate_left
  ·simp only [Act.put, List.setIfInBounds_toArray, List.set_cons_zero, List.set_cons_succ, i64_w, i32_w]
   rfl
  refine pure_ (i := 5) (N := some 14) (v := undef) (a' := ?_) #[true, true, true, true, true, true, false, false, false, false, false, false, false, false, false, false, false, false, false, false, false, false, false, false, false, false, false, false, false, false] rfl rfl (any_of HT_.out (by kernel_rfl)) (fun _ _ _ h => h) (Or.inr ⟨by rfl, rfl⟩) ?_ ?_
  rotate_left
  ·simp only [Act.put, List.setIfInBounds_toArray, List.set_cons_zero, List.set_cons_succ, i64_w, i32_w]
   rfl
  refine pure_ (i := 6) (N := some 15) (v := undef) (a' := ?_) #[true, true, true, true, true, true, true, false, false, false, false, false, false, false, false, false, false, false, false, false, false, false, false, false, false, false, false, false, false, false] rfl rfl (any_of HT_.out (by kernel_rfl)) (fun _ _ _ h => h) (Or.inr ⟨by rfl, rfl⟩) ?_ ?_
  rotate_left
  ·simp only [Act.put, List.setIfInBounds_toArray, List.set_cons_zero, List.set_cons_succ, i64_w, i32_w]
   rfl
  refine pure_ (i := 7) (N := some 16) (v := ?_) (a' := ?_) #[true, true, true, true, true, true, true, true, false, false, false, false, false, false, false, false, false, false, false, false, false, false, false, false, false, false, false, false, false, false] rfl rfl (any_of HT_.out (by kernel_rfl)) (fun _ _ _ h => h) (Or.inl ⟨by rfl, ?_⟩) ?_ ?_
  rotate_left
  ·intro w'
   go_simp
   with_reducible rfl
  rotate_left
  ·simp only [Act.put, List.setIfInBounds_toArray, List.set_cons_zero, List.set_cons_succ, i64_w, i32_w]
   rfl
  refine pure_ (i := 8) (N := some 17) (v := ?_) (a' := ?_) #[true, true, true, true, true, true, true, true, true, false, false, false, false, false, false, false, false, false, false, false, false, false, false, false, false, false, false, false, false, false] rfl rfl (any_of HT_.out (by kernel_rfl)) (fun _ _ _ h => h) (Or.inl ⟨by rfl, ?_⟩) ?_ ?_
  rotate_left
  ·intro w'
   go_simp
   with_reducible rfl
  rotate_left
  ·simp only [Act.put, List.setIfInBounds_toArray, List.set_cons_zero, List.set_cons_succ, i64_w, i32_w]
   rfl
  refine pure_ (i := 9) (N := some 18) (v := undef) (a' := ?_) #[true, true, true, true, true, true, true, true, true, true, false, false, false, false, false, false, false, false, false, false, false, false, false, false, false, false, false, false, false, false] rfl rfl (any_of HT_.out (by kernel_rfl)) (fun _ _ _ h => h) (Or.inr ⟨by rfl, rfl⟩) ?_ ?_
  rotate_left
  ·simp only [Act.put, List.setIfInBounds_toArray, List.set_cons_zero, List.set_cons_succ, i64_w, i32_w]
   rfl
  refine pure_ (i := 10) (N := some 19) (v := undef) (a' := ?_) #[true, true, true, true, true, true, true, true, true, true, true, false, false, false, false, false, false, false, false, false, false, false, false, false, false, false, false, false, false, false] rfl rfl (any_of HT_.out (by kernel_rfl)) (fun _ _ _ h => h) (Or.inr ⟨by rfl, rfl⟩) ?_ ?_
  rotate_left
  ·simp only [Act.put, List.setIfInBounds_toArray, List.set_cons_zero, List.set_cons_succ, i64_w, i32_w]
   rfl
  refine pure_ (i := 11) (N := some 20) (v := undef) (a' := ?_) #[true, true, true, true, true, true, true, true, true, true, true, true, false, false, false, false, false, false, false, false, false, false, false, false, false, false, false, false, false, false] rfl rfl (any_of HT_.out (by kernel_rfl)) (fun _ _ _ h => h) (Or.inr ⟨by rfl, rfl⟩) ?_ ?_
  rotate_left
  ·simp only [Act.put, List.setIfInBounds_toArray, List.set_cons_zero, List.set_cons_succ, i64_w, i32_w]
   rfl
  refine pure_ (i := 12) (N := some 21) (v := undef) (a' := ?_) #[true, true, true, true, true, true, true, true, true, true, true, true, true, false, false, false, false, false, false, false, false, false, false, false, false, false, false, false, false, false] rfl rfl (any_of HT_.out (by kernel_rfl)) (fun _ _ _ h => h) (Or.inr ⟨by rfl, rfl⟩) ?_ ?_
  rotate_left
  ·simp only [Act.put, List.setIfInBounds_toArray, List.set_cons_zero, List.set_cons_succ, i64_w, i32_w]
   rfl
  refine pure_ (i := 13) (N := some 22) (v := undef) (a' := ?_) #[true, true, true, true, true, true, true, true, true, true, true, true, true, true, false, false, false, false, false, false, false, false, false, false, false, false, false, false, false, false] rfl rfl (any_of HT_.out (by kernel_rfl)) (fun _ _ _ h => h) (Or.inr ⟨by rfl, rfl⟩) ?_ ?_
  rotate_left
  ·simp only [Act.put, List.setIfInBounds_toArray, List.set_cons_zero, List.set_cons_succ, i64_w, i32_w]
   rfl
  refine pure_ (i := 14) (N := some 23) (v := ?_) (a' := ?_) #[true, true, true, true, true, true, true, true, true, true, true, true, true, true, true, false, false, false, false, false, false, false, false, false, false, false, false, false, false, false] rfl rfl (any_of HT_.out (by kernel_rfl)) (fun _ _ _ h => h) (Or.inl ⟨by rfl, ?_⟩) ?_ ?_
  rotate_left
  ·intro w'
   go_simp
   with_reducible rfl
  rotate_left
  ·simp only [Act.put, List.setIfInBounds_toArray, List.set_cons_zero, List.set_cons_succ, i64_w, i32_w]
   rfl
  refine pure_ (i := 15) (N := some 24) (v := ?_) (a' := ?_) #[true, true, true, true, true, true, true, true, true, true, true, true, true, true, true, true, false, false, false, false, false, false, false, false, false, false, false, false, false, false] rfl rfl (any_of HT_.out (by kernel_rfl)) (fun _ _ _ h => h) (Or.inl ⟨by rfl, ?_⟩) ?_ ?_
  rotate_left
  ·intro w'
   go_simp
   with_reducible rfl
  rotate_left
  ·simp only [Act.put, List.setIfInBounds_toArray, List.set_cons_zero, List.set_cons_succ, i64_w, i32_w]
   rfl
  refine pure_ (i := 16) (N := some 25) (v := undef) (a' := ?_) #[true, true, true, true, true, true, true, true, true, true, true, true, true, true, true, true, true, false, false, false, false, false, false, false, false, false, false, false, false, false] rfl rfl (any_of HT_.out (by kernel_rfl)) (fun _ _ _ h => h) (Or.inr ⟨by rfl, rfl⟩) ?_ ?_
  rotate_left
  ·simp only [Act.put, List.setIfInBounds_toArray, List.set_cons_zero, List.set_cons_succ, i64_w, i32_w]
   rfl
  refine pure_ (i := 17) (N := some 26) (v := undef) (a' := ?_) #[true, true, true, true, true, true, true, true, true, true, true, true, true, true, true, true, true, true, false, false, false, false, false, false, false, false, false, false, false, false] rfl rfl (any_of HT_.out (by kernel_rfl)) (fun _ _ _ h => h) (Or.inr ⟨by rfl, rfl⟩) ?_ ?_
  rotate_left
  ·simp only [Act.put, List.setIfInBounds_toArray, List.set_cons_zero, List.set_cons_succ, i64_w, i32_w]
   rfl
  refine pure_ (i := 18) (N := some 27) (v := undef) (a' := ?_) #[true, true, true, true, true, true, true, true, true, true, true, true, true, true, true, true, true, true, true, false, false, false, false, false, false, false, false, false, false, false] rfl rfl (any_of HT_.out (by kernel_rfl)) (fun _ _ _ h => h) (Or.inr ⟨by rfl, rfl⟩) ?_ ?_
  rotate_left
  ·simp only [Act.put, List.setIfInBounds_toArray, List.set_cons_zero, List.set_cons_succ, i64_w, i32_w]
   rfl
  refine pure_ (i := 19) (N := some 28) (v := undef) (a' := ?_) #[true, true, true, true, true, true, true, true, true, true, true, true, true, true, true, true, true, true, true, true, false, false, false, false, false, false, false, false, false, false] rfl rfl (any_of HT_.out (by kernel_rfl)) (fun _ _ _ h => h) (Or.inr ⟨by rfl, rfl⟩) ?_ ?_
  rotate_left
  ·simp only [Act.put, List.setIfInBounds_toArray, List.set_cons_zero, List.set_cons_succ, i64_w, i32_w]
   rfl
  refine pure_ (i := 20) (N := some 29) (v := undef) (a' := ?_) #[true, true, true, true, true, true, true, true, true, true, true, true, true, true, true, true, true, true, true, true, true, false, false, false, false, false, false, false, false, false] rfl rfl (any_of HT_.out (by kernel_rfl)) (fun _ _ _ h => h) (Or.inr ⟨by rfl, rfl⟩) ?_ ?_
  rotate_left
  ·simp only [Act.put, List.setIfInBounds_toArray, List.set_cons_zero, List.set_cons_succ, i64_w, i32_w]
   rfl
  refine pure_ (i := 21) (N := some 30) (v := undef) (a' := ?_) #[true, true, true, true, true, true, true, true, true, true, true, true, true, true, true, true, true, true, true, true, true, true, false, false, false, false, false, false, false, false] rfl rfl (any_of HT_.out (by kernel_rfl)) (fun _ _ _ h => h) (Or.inr ⟨by rfl, rfl⟩) ?_ ?_
  rotate_left
  ·simp only [Act.put, List.setIfInBounds_toArray, List.set_cons_zero, List.set_cons_succ, i64_w, i32_w]
   rfl
  refine pure_ (i := 22) (N := some 31) (v := undef) (a' := ?_) #[true, true, true, true, true, true, true, true, true, true, true, true, true, true, true, true, true, true, true, true, true, true, true, false, false, false, false, false, false, false] rfl rfl (any_of HT_.out (by kernel_rfl)) (fun _ _ _ h => h) (Or.inr ⟨by rfl, rfl⟩) ?_ ?_
  rotate_left
  ·simp only [Act.put, List.setIfInBounds_toArray, List.set_cons_zero, List.set_cons_succ, i64_w, i32_w]
   rfl
  refine pure_ (i := 23) (N := some 32) (v := undef) (a' := ?_) #[true, true, true, true, true, true, true, true, true, true, true, true, true, true, true, true, true, true, true, true, true, true, true, true, false, false, false, false, false, false] rfl rfl (any_of HT_.out (by kernel_rfl)) (fun _ _ _ h => h) (Or.inr ⟨by rfl, rfl⟩) ?_ ?_
  rotate_left
  ·simp only [Act.put, List.setIfInBounds_toArray, List.set_cons_zero, List.set_cons_succ, i64_w, i32_w]
   rfl
  refine pure_ (i := 24) (N := some 33) (v := undef) (a' := ?_) #[true, true, true, true, true, true, true, true, true, true, true, true, true, true, true, true, true, true, true, true, true, true, true, true, true, false, false, false, false, false] rfl rfl (any_of HT_.out (by kernel_rfl)) (fun _ _ _ h => h) (Or.inr ⟨by rfl, rfl⟩) ?_ ?_
  rotate_left
  ·simp only [Act.put, List.setIfInBounds_toArray, List.set_cons_zero, List.set_cons_succ, i64_w, i32_w]
   rfl
  refine pure_ (i := 25) (N := some 34) (v := undef) (a' := ?_) #[true, true, true, true, true, true, true, true, true, true, true, true, true, true, true, true, true, true, true, true, true, true, true, true, true, true, false, false, false, false] rfl rfl (any_of HT_.out (by kernel_rfl)) (fun _ _ _ h => h) (Or.inr ⟨by rfl, rfl⟩) ?_ ?_
  rotate_left
  ·simp only [Act.put, List.setIfInBounds_toArray, List.set_cons_zero, List.set_cons_succ, i64_w, i32_w]
   rfl
  refine pure_ (i := 26) (N := some 35) (v := undef) (a' := ?_) #[true, true, true, true, true, true, true, true, true, true, true, true, true, true, true, true, true, true, true, true, true, true, true, true, true, true, true, false, false, false] rfl rfl (any_of HT_.out (by kernel_rfl)) (fun _ _ _ h => h) (Or.inr ⟨by rfl, rfl⟩) ?_ ?_
  rotate_left
  ·simp only [Act.put, List.setIfInBounds_toArray, List.set_cons_zero, List.set_cons_succ, i64_w, i32_w]
   rfl
  refine pure_ (i := 27) (N := some 36) (v := undef) (a' := ?_) #[true, true, true, true, true, true, true, true, true, true, true, true, true, true, true, true, true, true, true, true, true, true, true, true, true, true, true, true, false, false] rfl rfl (any_of HT_.out (by kernel_rfl)) (fun _ _ _ h => h) (Or.inr ⟨by rfl, rfl⟩) ?_ ?_
  rotate_left
  ·simp only [Act.put, List.setIfInBounds_toArray, List.set_cons_zero, List.set_cons_succ, i64_w, i32_w]
   rfl
  refine pure_ (i := 28) (N := some 37) (v := undef) (a' := ?_) #[true, true, true, true, true, true, true, true, true, true, true, true, true, true, true, true, true, true, true, true, true, true, true, true, true, true, true, true, true, false] rfl rfl (any_of HT_.out (by kernel_rfl)) (fun _ _ _ h => h) (Or.inr ⟨by rfl, rfl⟩) ?_ ?_
  rotate_left
  ·simp only [Act.put, List.setIfInBounds_toArray, List.set_cons_zero, List.set_cons_succ, i64_w, i32_w]
   rfl
  refine pure_ (i := 29) (N := some 38) (v := ?_) (a' := ?_) #[true, true, true, true, true, true, true, true, true, true, true, true, true, true, true, true, true, true, true, true, true, true, true, true, true, true, true, true, true, true] rfl rfl (any_of HT_.out (by kernel_rfl)) (fun _ _ _ h => h) (Or.inl ⟨by rfl, ?_⟩) ?_ ?_
  rotate_left
  ·intro w'
   go_simp
   with_reducible rfl
  rotate_left
  ·simp only [Act.put, List.setIfInBounds_toArray, List.set_cons_zero, List.set_cons_succ, i64_w, i32_w]
   rfl
  refine done_ (done_of HT_.out (by kernel_rfl)) ?_
  try go_wp2
  go_ret
  exact ⟨rE, bW⟩
end Go.Proofs.Ytekoaaiemmblgaa.Q
end

section
namespace Go.Proofs.Ytekoaaiemmblgaa.Q
open Go.RowKit Go.Proofs.YtekoaaiemmblgaaW.PrintWords Go.Proofs.YtekoaaiemmblgaaW.PrintLast Go.Proofs.YtekoaaiemmblgaaW.PrintMore
attribute [local go_sem] max2_int min2_int max_two min_two max_three min_three max_four min_four   -- for this text's walks alone
set_option linter.unusedVariables false
set_option linter.unusedSimpArgs false
attribute [local go_sem] bin_leq bin_gtr bin_geq
def impl_areCommits.l0 : Nat → List (S78) → List (S78) → Int → Int → Option (Bool)
  | 0, _, _, _, _ => none
  | k + 1, x0, x5, x6, x7 => if x7 < x6 then (if 0 ≤ x7 then (if x7 < (x5.length : Int) then ((impl_Commit_isAt.f k ((rd_T78 x5 x7).f0) ((rd_T78 x5 x7).f1) (wrap64 (x7 + 1))).bind fun t189 => (if t189 = true then (impl_areCommits.l0 k x0 x5 x6 (wrap64 (x7 + 1))) else (some false))) else (none)) else (none)) else (some (decide ((x0.length : Int) ≤ 60)))
def impl_areCommits.f (k : Nat) (l0 : List (S78)) : Option (Bool) := impl_areCommits.l0 k l0 l0 (l0.length : Int) 0
set_option maxHeartbeats 8000000 in
set_option maxRecDepth 100000 in
theorem impl_areCommits.calls (k : Nat) (A0 : Option Addr) (c0 : Nat) (l0 : List (S78)) (r : Bool) (w : World) (hr0 : Kd.C k78 w A0 l0.length l0) (hc0 : l0.length ≤ c0) (h : impl_areCommits.f k l0 = some r) :
    Calls Try.prog 98 #[.slice A0 l0.length c0] w fun e w' => e = .returned (.bool r) ∧ Below w.heap.size w w' := by
  have hu78 := Try.underlying78
  have HR0 := Aside0.mk hr0
  have HC0 := Aside0.mk hc0
  clear hr0 hc0
  have HB := Aside0.mk (Below.refl w.heap.size w)
  have H : (impl_areCommits.l0 k l0 l0 (l0.length : Int) 0) = some r := h
  clear h
  have H' := Aside0.mk H
  clear H
  go_enter Try.func98, Try.ntmps98
  go_wp2
  go_loopg [7] k (fun kq v7 w' => ∃ (x7_1 : Int), v7 = .int .i64 x7_1 ∧ Aside0 (impl_areCommits.l0 kq l0 l0 (l0.length : Int) x7_1 = some r) ∧ Aside0 (kq ≤ k) ∧ Aside0 (Below w.heap.size w w'))
  case atStart => exact ⟨(0), vE, H', ⟨Nat.le_refl _⟩, ⟨bW⟩⟩
  case round =>
    clear H'
    obtain ⟨x7_1, rfl, HA, HK1, HB⟩ := hrel
    cases gk with
    | zero => exact absurd HA.out (by simp [impl_areCommits.l0])
    | succ k1 =>
      have H := HA.out
      clear HA
      simp only [impl_areCommits.l0] at H
      by_cases c2 : x7_1 < (l0.length : Int)
      · rw [if_pos c2] at H
        have c2b0 : decide (x7_1 < (l0.length : Int)) = true := decide_eq_true c2
        clear c2
        by_cases c3 : 0 ≤ x7_1
        · rw [if_pos c3] at H
          have c3b0 : decide (0 ≤ x7_1) = true := decide_eq_true c3
          clear c3
          by_cases c4 : x7_1 < (l0.length : Int)
          · rw [if_pos c4] at H
            have c4b0 : decide (x7_1 < (l0.length : Int)) = true := decide_eq_true c4
            clear c4
            replace H := Option.bind_eq_some_iff.mp H
            obtain ⟨t189, A50, H⟩ := H
            replace H : (if t189 = true then (impl_areCommits.l0 k1 l0 l0 (l0.length : Int) (wrap64 (x7_1 + 1))) else (some false)) = some r := H
            have A5 := Aside0.mk A50
            clear A50
            by_cases c6 : t189 = true
            · subst c6
              have H1 : (impl_areCommits.l0 k1 l0 l0 (l0.length : Int) (wrap64 (x7_1 + 1))) = some r := by rw [if_pos rfl] at H; exact H
              clear H
              have H := H1
              clear H1
              have H' := Aside0.mk H
              clear H
              have p187 : 0 ≤ (x7_1 : Int) := odt
              have q187 : x7_1 < (l0.length : Int) := odt
              obtain ⟨ad187, A187_0, c187_0, A187_1, c187_1, e187, hx187_0, hx187_1, hl187_0, hi187_0, hl187_1, hi187_1⟩ := at_T78 HR0.out x7_1 p187 q187
              cases e187
              replace hx187_0 := (HB.out.cell (World.block_lt_of_cell? w _ hx187_0)).trans hx187_0
              replace hx187_1 := (HB.out.cell (World.block_lt_of_cell? w _ hx187_1)).trans hx187_1
              have HR187_0 := Aside0.mk hi187_0
              have HC187_0 := Aside0.mk hl187_0
              clear hi187_0 hl187_0
              have HR187_1 := Aside0.mk hi187_1
              have HC187_1 := Aside0.mk hl187_1
              clear hi187_1 hl187_1
              replace p187 := eq_true p187
              replace q187 := eq_true q187
              go_wp2_with (first | ((with_reducible refine gate_dst (N := 4) rfl ?_); refine bE (N := 4) (cs := #[.slice none 0 0, .slice none 0 0]) (t := 78) ?_; intro gb188 hg w7 hbox hb; have n0_ := Aside0.mk (below_step (w := w) bW hb); have n1_ := Aside0.mk (hbox); have n2_ := Aside0.mk (gS (w := w) hg); have n3_ := n2_; clear HB; have HB := n0_; have BK188 := n1_; have GW188 := n2_; have GE188 := n3_; clear n0_ n1_ n2_ n3_; clear hb hbox hg; obtain ⟨hcz8_0, hcz8_1⟩ := cz2 BK188; obtain ⟨hfz8_0, hfz8_1⟩ := fz2 BK188) | ((with_reducible refine gate_callee (f := 124) rfl ?_); refine goesL_ (some 15) rfl rfl Try.func124 (by kernel_rfl) rfl #[.agg #[.slice A187_0 ((rd_T78 l0 x7_1).f0).length c187_0, .slice A187_1 ((rd_T78 l0 x7_1).f1).length c187_1], .int .i64 (wrap64 (x7_1 + 1))] rfl gA ?_; (with_reducible refine (impl_Commit_isAt.calls k1 _ _ ((rd_T78 l0 x7_1).f0) _ _ ((rd_T78 l0 x7_1).f1) (wrap64 (x7_1 + 1)) true _ ?side1 ?side2 ?side3 ?side4 A5.out).mono ?_); (case side1 => exact Kd.C_below HR187_0.out bW); (case side2 => exact HC187_0.out); (case side3 => exact Kd.C_below HR187_1.out bW); (case side4 => exact HC187_1.out); rintro e w9 ⟨rfl, hb⟩; refine ⟨_, rfl, ?_⟩; have n0_ := Aside0.mk (blk_below (g := gb188) (o := .cells #[.slice A187_0 ((rd_T78 l0 x7_1).f0).length c187_0, .slice A187_1 ((rd_T78 l0 x7_1).f1).length c187_1] 78 (0, 0)) (by (with_reducible repeat (first | refine blk_drewN ?_ _ | refine blk_drew ?_ | refine blk_alloc ?_ _)); refine blk_put (cs := #[.slice A187_0 ((rd_T78 l0 x7_1).f0).length c187_0, .slice none 0 0]) ?_ 1 _ rfl; (with_reducible repeat (first | refine blk_drewN ?_ _ | refine blk_drew ?_ | refine blk_alloc ?_ _)); refine blk_put (cs := #[.slice none 0 0, .slice none 0 0]) ?_ 0 _ rfl; (with_reducible repeat (first | refine blk_drewN ?_ _ | refine blk_drew ?_ | refine blk_alloc ?_ _)); exact BK188.out) hb); have n1_ := Aside0.mk (below_step (w := w) bW hb); clear BK188; clear HB; have BK188 := n0_; have HB := n1_; clear n0_ n1_; (try clear hb); (try clear hb2); (try clear hk); (try clear hi)))
              go_roundg k1
              case measure => have := HK1.out; omega
              case rel => exact ⟨(wrap64 (x7_1 + 1)), vE, H', ⟨by have := HK1.out; omega⟩, ⟨bW⟩⟩
            · replace c6 := Bool.eq_false_iff.mpr c6
              subst c6
              have H1 : (some false) = some r := by rw [if_neg (show ¬ (false = true) by decide)] at H; exact H
              clear H
              have H := H1
              clear H1
              obtain rfl := Option.some.inj H
              have p187 : 0 ≤ (x7_1 : Int) := odt
              have q187 : x7_1 < (l0.length : Int) := odt
              obtain ⟨ad187, A187_0, c187_0, A187_1, c187_1, e187, hx187_0, hx187_1, hl187_0, hi187_0, hl187_1, hi187_1⟩ := at_T78 HR0.out x7_1 p187 q187
              cases e187
              replace hx187_0 := (HB.out.cell (World.block_lt_of_cell? w _ hx187_0)).trans hx187_0
              replace hx187_1 := (HB.out.cell (World.block_lt_of_cell? w _ hx187_1)).trans hx187_1
              have HR187_0 := Aside0.mk hi187_0
              have HC187_0 := Aside0.mk hl187_0
              clear hi187_0 hl187_0
              have HR187_1 := Aside0.mk hi187_1
              have HC187_1 := Aside0.mk hl187_1
              clear hi187_1 hl187_1
              replace p187 := eq_true p187
              replace q187 := eq_true q187
              go_wp2_with (first | ((with_reducible refine gate_dst (N := 4) rfl ?_); refine bE (N := 4) (cs := #[.slice none 0 0, .slice none 0 0]) (t := 78) ?_; intro gb188 hg w10 hbox hb; have n0_ := Aside0.mk (below_step (w := w) bW hb); have n1_ := Aside0.mk (hbox); have n2_ := Aside0.mk (gS (w := w) hg); have n3_ := n2_; clear HB; have HB := n0_; have BK188 := n1_; have GW188 := n2_; have GE188 := n3_; clear n0_ n1_ n2_ n3_; clear hb hbox hg; obtain ⟨hcz11_0, hcz11_1⟩ := cz2 BK188; obtain ⟨hfz11_0, hfz11_1⟩ := fz2 BK188) | ((with_reducible refine gate_callee (f := 124) rfl ?_); refine goesL_ (some 15) rfl rfl Try.func124 (by kernel_rfl) rfl #[.agg #[.slice A187_0 ((rd_T78 l0 x7_1).f0).length c187_0, .slice A187_1 ((rd_T78 l0 x7_1).f1).length c187_1], .int .i64 (wrap64 (x7_1 + 1))] rfl gA ?_; (with_reducible refine (impl_Commit_isAt.calls k1 _ _ ((rd_T78 l0 x7_1).f0) _ _ ((rd_T78 l0 x7_1).f1) (wrap64 (x7_1 + 1)) false _ ?side1 ?side2 ?side3 ?side4 A5.out).mono ?_); (case side1 => exact Kd.C_below HR187_0.out bW); (case side2 => exact HC187_0.out); (case side3 => exact Kd.C_below HR187_1.out bW); (case side4 => exact HC187_1.out); rintro e w12 ⟨rfl, hb⟩; refine ⟨_, rfl, ?_⟩; have n0_ := Aside0.mk (blk_below (g := gb188) (o := .cells #[.slice A187_0 ((rd_T78 l0 x7_1).f0).length c187_0, .slice A187_1 ((rd_T78 l0 x7_1).f1).length c187_1] 78 (0, 0)) (by (with_reducible repeat (first | refine blk_drewN ?_ _ | refine blk_drew ?_ | refine blk_alloc ?_ _)); refine blk_put (cs := #[.slice A187_0 ((rd_T78 l0 x7_1).f0).length c187_0, .slice none 0 0]) ?_ 1 _ rfl; (with_reducible repeat (first | refine blk_drewN ?_ _ | refine blk_drew ?_ | refine blk_alloc ?_ _)); refine blk_put (cs := #[.slice none 0 0, .slice none 0 0]) ?_ 0 _ rfl; (with_reducible repeat (first | refine blk_drewN ?_ _ | refine blk_drew ?_ | refine blk_alloc ?_ _)); exact BK188.out) hb); have n1_ := Aside0.mk (below_step (w := w) bW hb); clear BK188; clear HB; have BK188 := n0_; have HB := n1_; clear n0_ n1_; (try clear hb); (try clear hb2); (try clear hk); (try clear hi)))
              go_ret
              exact ⟨rE, bW⟩
          · rw [if_neg c4] at H
            exact absurd H (by simp)
        · rw [if_neg c3] at H
          exact absurd H (by simp)
      · rw [if_neg c2] at H
        have c2b0 : decide (x7_1 < (l0.length : Int)) = false := decide_eq_false c2
        clear c2
        obtain rfl := Option.some.inj H
        go_wp2
        go_ret
        exact ⟨rE, bW⟩
end Go.Proofs.Ytekoaaiemmblgaa.Q
end

section
namespace Go.Proofs.Ytekoaaiemmblgaa.Q
open Go.RowKit Go.Proofs.YtekoaaiemmblgaaW.PrintWords Go.Proofs.YtekoaaiemmblgaaW.PrintLast Go.Proofs.YtekoaaiemmblgaaW.PrintMore
attribute [local go_sem] max2_int min2_int max_two min_two max_three min_three max_four min_four   -- for this text's walks alone
set_option linter.unusedVariables false
set_option linter.unusedSimpArgs false
attribute [local go_sem] bin_leq bin_gtr bin_geq
def impl_StoreOK.f (k : Nat) (l0 : List (S78)) : Option (Bool) := if (l0.length : Int) > 0 then ((impl_Commit_97.f l0).bind fun t190 => (if t190 = true then ((impl_areCommits.f k l0).bind fun t191 => (some t191)) else (some false))) else (some false)
set_option maxHeartbeats 8000000 in
set_option maxRecDepth 100000 in
theorem impl_StoreOK.calls (k : Nat) (A0 : Option Addr) (c0 : Nat) (l0 : List (S78)) (r : Bool) (w : World) (hr0 : Kd.C k78 w A0 l0.length l0) (hc0 : l0.length ≤ c0) (h : impl_StoreOK.f k l0 = some r) :
    Calls Try.prog 56 #[.slice A0 l0.length c0] w fun e w' => e = .returned (.bool r) ∧ Below w.heap.size w w' := by
  have HR0 := Aside0.mk hr0
  have HC0 := Aside0.mk hc0
  clear hr0 hc0
  have HB := Aside0.mk (Below.refl w.heap.size w)
  have H : (if (l0.length : Int) > 0 then ((impl_Commit_97.f l0).bind fun t190 => (if t190 = true then ((impl_areCommits.f k l0).bind fun t191 => (some t191)) else (some false))) else (some false)) = some r := h
  clear h
  by_cases c2 : (l0.length : Int) > 0
  · rw [if_pos c2] at H
    have c2b0 : decide (0 < (l0.length : Int)) = true := decide_eq_true c2
    have c2b1 : decide (0 < l0.length) = true := decide_eq_true (by omega)
    clear c2
    replace H := Option.bind_eq_some_iff.mp H
    obtain ⟨t190, A30, H⟩ := H
    replace H : (if t190 = true then ((impl_areCommits.f k l0).bind fun t191 => (some t191)) else (some false)) = some r := H
    have A3 := Aside0.mk A30
    clear A30
    by_cases c4 : t190 = true
    · subst c4
      have H1 : ((impl_areCommits.f k l0).bind fun t191 => (some t191)) = some r := by rw [if_pos rfl] at H; exact H
      clear H
      have H := H1
      clear H1
      replace H := Option.bind_eq_some_iff.mp H
      obtain ⟨t191, A50, H⟩ := H
      replace H : (some t191) = some r := H
      have A5 := Aside0.mk A50
      clear A50
      obtain rfl := Option.some.inj H
      go_enter Try.func56, Try.ntmps56
      go_wp2_with (first | (go_at_call 97; (with_reducible refine (impl_Commit_97.calls _ _ l0 true _ ?side1 ?side2 A3.out).mono ?_); (case side1 => exact cN HR0); (case side2 => exact HC0.out); rintro e w' ⟨rfl, ⟨nd, rfl⟩⟩) | (go_at_call 98; (with_reducible refine (impl_areCommits.calls k _ _ l0 t191 _ ?side1 ?side2 A5.out).mono ?_); (case side1 => exact cN HR0); (case side2 => exact HC0.out); rintro e w6 ⟨rfl, hb⟩; have n0_ := Aside0.mk (below_step (w := w) bW hb); clear HB; have HB := n0_; clear n0_; (try clear hb); (try clear hb2); (try clear hk); (try clear hi)))
      go_ret
      exact ⟨rE, bW⟩
    · replace c4 := Bool.eq_false_iff.mpr c4
      subst c4
      have H1 : (some false) = some r := by rw [if_neg (show ¬ (false = true) by decide)] at H; exact H
      clear H
      have H := H1
      clear H1
      obtain rfl := Option.some.inj H
      go_enter Try.func56, Try.ntmps56
      go_wp2_with (first | (go_at_call 97; (with_reducible refine (impl_Commit_97.calls _ _ l0 false _ ?side1 ?side2 A3.out).mono ?_); (case side1 => exact cN HR0); (case side2 => exact HC0.out); rintro e w' ⟨rfl, ⟨nd, rfl⟩⟩))
      go_ret
      exact ⟨rE, bW⟩
  · rw [if_neg c2] at H
    have c2b0 : decide (0 < (l0.length : Int)) = false := decide_eq_false c2
    have c2b1 : decide (0 < l0.length) = false := decide_eq_false (by omega)
    clear c2
    obtain rfl := Option.some.inj H
    go_enter Try.func56, Try.ntmps56
    go_wp2
    go_ret
    exact ⟨rE, bW⟩
end Go.Proofs.Ytekoaaiemmblgaa.Q
end

section
namespace Go.Proofs.Ytekoaaiemmblgaa.Q
open Go.RowKit Go.Proofs.YtekoaaiemmblgaaW.PrintWords Go.Proofs.YtekoaaiemmblgaaW.PrintLast Go.Proofs.YtekoaaiemmblgaaW.PrintMore
attribute [local go_sem] max2_int min2_int max_two min_two max_three min_three max_four min_four   -- for this text's walks alone
set_option linter.unusedVariables false
set_option linter.unusedSimpArgs false
attribute [local go_sem] bin_leq bin_gtr bin_geq
def Asks_Ref (g : Nat) (lb : Array Value) (p : S92 → Bool) (w : World) (l : List S92) : Prop :=
  ∀ (W : World) (x : S92), Below w.heap.size w W → x ∈ l → Calls Try.prog g (#[.agg #[.string x.f0, .int .i64 x.f1, .int .i64 x.f2, .bool x.f3]] ++ lb) W fun e w' => e = .returned (.bool (p x)) ∧ Below W.heap.size W w'
set_option maxHeartbeats 2000000 in
set_option maxRecDepth 100000 in
theorem idxF_Ref (g : Nat) (lb : Array Value) (eg : ∀ args w, (callFunc g args).run Try.prog w = .ok (.enter g args) w) (p : S92 → Bool) (A0 : Option Addr) (c0 : Nat) (l0 : List S92) (w : World) (hr0 : Kd.C k92 w A0 l0.length l0) (hc0 : l0.length ≤ c0) (hp : Asks_Ref g lb p w l0) :
    Calls Try.prog 131 #[.slice A0 l0.length c0, .func (.func g) #[] lb] w fun e w' => e = .returned (.int .i64 (idxI p l0)) ∧ Below w.heap.size w w' := by
  have HM : l0.length ≤ 9223372036854775807 := hr0.2.1
  have HR0 := Aside0.mk hr0
  have HP := Aside0.mk hp
  clear hr0 hc0 hp
  go_enter Try.func131, Try.ntmps131
  go_wp2
  go_loopg [8] l0.length (fun gk v8 w' => ∃ kk : Nat, kk ≤ l0.length ∧ l0.length - kk ≤ gk ∧ v8 = .int .i64 kk ∧ Aside0 (∀ j (hj : j < l0.length), j < kk → p l0[j] = false) ∧ Aside0 (Below w.heap.size w w'))
  case atStart => exact ⟨0, Nat.zero_le _, by omega, rfl, ⟨fun j hj h => absurd h (Nat.not_lt_zero _)⟩, ⟨Below.refl _ _⟩⟩
  case round =>
    obtain ⟨kk, hkk, hg, rfl, HA, HB⟩ := hrel
    by_cases hlt : kk < l0.length
    · have hltz : (kk : Int) < (l0.length : Int) := by omega
      have HRW := Aside0.mk (Kd.C_below HR0.out HB.out)
      obtain ⟨ad, e1, hx0, hx1, hx2, hx3⟩ := at_T92 HRW.out (kk : Int) (by omega) hltz
      cases e1
      have ex : rd_T92 l0 (kk : Int) = l0[kk] := by simp [rd_T92, List.getD_eq_getElem?_getD, List.getElem?_eq_getElem hlt]
      rw [ex] at hx0 hx1 hx2 hx3
      simp only [Int.toNat_natCast] at hx0 hx1 hx2 hx3
      have hcall := HP.out _ l0[kk] HB.out (List.getElem_mem hlt)
      obtain ⟨y, hy⟩ : ∃ y, y = l0[kk] := ⟨_, rfl⟩
      rw [← hy] at hx0 hx1 hx2 hx3 hcall
      have HY := Aside0.mk hy
      clear hy ex
      cases hq : p y with
      | true =>
        rw [hq] at hcall
        have HC := Aside0.mk hcall
        have HQ := Aside0.mk hq
        clear hcall hq
        go_wp2_with ((with_reducible refine HC.out.mono ?_); rintro e w' ⟨rfl, hb'⟩)
        go_ret
        refine ⟨?_, below_then HB.out HB.out.size hb'⟩
        rw [idxI_some hlt (fun j hj => HA.out j (by omega) hj) (by rw [← HY.out]; exact HQ.out)]; rfl
      | false =>
        rw [hq] at hcall
        have HC := Aside0.mk hcall
        have HQ := Aside0.mk hq
        clear hcall hq
        go_wp2_with ((with_reducible refine HC.out.mono ?_); rintro e w' ⟨rfl, hb'⟩)
        go_roundg (l0.length - (kk + 1))
        case measure => omega
        case rel =>
          refine ⟨kk + 1, by omega, by omega, by go_num, ⟨fun j hj h => ?_⟩, ⟨below_then HB.out HB.out.size hb'⟩⟩
          by_cases e : j = kk
          · subst e
            rw [← HY.out]; exact HQ.out
          · exact HA.out j hj (by omega)
    · have hltz : ¬ (kk : Int) < (l0.length : Int) := by omega
      obtain rfl : kk = l0.length := by omega
      go_wp2
      go_ret
      exact ⟨by rw [idxI_none (fun j hj => HA.out j hj (by omega))]; rfl, HB.out⟩
end Go.Proofs.Ytekoaaiemmblgaa.Q
end

section
namespace Go.Proofs.Ytekoaaiemmblgaa.Q
open Go.RowKit Go.Proofs.YtekoaaiemmblgaaW.PrintWords Go.Proofs.YtekoaaiemmblgaaW.PrintLast Go.Proofs.YtekoaaiemmblgaaW.PrintMore
attribute [local go_sem] max2_int min2_int max_two min_two max_three min_three max_four min_four   -- for this text's walks alone
set_option linter.unusedVariables false
set_option linter.unusedSimpArgs false
attribute [local go_sem] bin_leq bin_gtr bin_geq
def refB (x : S92) : Bool := nameB x.f0 && inB x.f2 1 1000000 && (if x.f3 then x.f1 == 0 else inB x.f1 1 60)
def isNm (n : ByteArray) (x : S92) : Bool := x.f0.toList == n.toList
def placeI (l : List S92) (n : ByteArray) : Int := idxI (isNm n) l
def refsB (l : List S92) : Bool := decide (l.length ≤ 8) && (l.all refB && allR (fun j => decide (placeI (l.take j) (rd_T92 l (j : Int)).f0 < 0)) l.length)
end Go.Proofs.Ytekoaaiemmblgaa.Q
end

section
namespace Go.Proofs.Ytekoaaiemmblgaa.Q
open Go.RowKit Go.Proofs.YtekoaaiemmblgaaW.PrintWords Go.Proofs.YtekoaaiemmblgaaW.PrintLast Go.Proofs.YtekoaaiemmblgaaW.PrintMore
attribute [local go_sem] max2_int min2_int max_two min_two max_three min_three max_four min_four   -- for this text's walks alone
set_option linter.unusedVariables false
set_option linter.unusedSimpArgs false
attribute [local go_sem] bin_leq bin_gtr bin_geq
def impl_place.f (l0 : List (S92)) (a1 : ByteArray) : Option (Int) := some (placeI l0 a1)
theorem place_asks (name : ByteArray) (B : Nat) (l : List S92) (w : World) (hB : B < w.heap.size) (hc : w.cell? ⟨B, 0, none⟩ = some (.string name)) :
    Asks_Ref 132 #[.pointer (some ⟨B, 0, none⟩)] (isNm name) w l := by
  intro W x hW hx
  have hc' : W.cell? ⟨B, 0, none⟩ = some (.string name) := (hW.cell (p := ⟨B, 0, none⟩) hB).trans hc
  have hB' : B < W.heap.size := Nat.lt_of_lt_of_le hB hW.size
  have HBX : Below W.heap.size W (W.alloc (.cells #[.string x.f0, .int .i64 x.f1, .int .i64 x.f2, .bool x.f3] 92)) := (Below.refl _ _).alloc (Nat.le_refl _) _
  have hcb : (W.alloc (.cells #[.string x.f0, .int .i64 x.f1, .int .i64 x.f2, .bool x.f3] 92)).cell? ⟨B, 0, none⟩ = some (.string name) := (HBX.cell (p := ⟨B, 0, none⟩) hB').trans hc'
  have HBA := Aside0.mk HBX
  clear hx hc HBX hc' hW hB
  go_enter Try.func132, Try.ntmps132
  go_wp2
  go_ret
  exact ⟨rfl, HBA.out⟩
set_option maxHeartbeats 2000000 in
set_option maxRecDepth 100000 in
theorem impl_place.calls (A0 : Option Addr) (c0 : Nat) (l0 : List (S92)) (a1 : ByteArray) (r : Int) (w : World) (hr0 : Kd.C k92 w A0 l0.length l0) (hc0 : l0.length ≤ c0) (h : impl_place.f l0 a1 = some r) :
    Calls Try.prog 111 #[.slice A0 l0.length c0, .string a1] w fun e w' => e = .returned (.int .i64 r) ∧ Below w.heap.size w w' := by
  obtain rfl := Option.some.inj h
  clear h
  have HB0 : Below w.heap.size w (w.alloc (.cells #[.string a1] 9)) := (Below.refl _ _).alloc (Nat.le_refl _) _
  have HR0 := Aside0.mk (Kd.C_below hr0 HB0)
  have HP := Aside0.mk (place_asks a1 w.heap.size l0 (w.alloc (.cells #[.string a1] 9)) (by simp) (by simp))
  have HC0 := Aside0.mk hc0
  have HBA := Aside0.mk HB0
  clear hr0 hc0 HB0
  go_enter Try.func111, Try.ntmps111
  go_wp2_with (refine (idxF_Ref 132 #[.pointer (some ⟨w.heap.size, 0, none⟩)] (enters_ Try.func132 (by kernel_rfl) rfl) (isNm a1) A0 c0 l0 _ HR0.out HC0.out HP.out).mono ?_; rintro e w' ⟨rfl, hb⟩)
  go_ret
  exact ⟨rfl, below_then HBA.out HBA.out.size hb⟩
end Go.Proofs.Ytekoaaiemmblgaa.Q
end

section
namespace Go.Proofs.Ytekoaaiemmblgaa.Q
open Go.RowKit Go.Proofs.YtekoaaiemmblgaaW.PrintWords Go.Proofs.YtekoaaiemmblgaaW.PrintLast Go.Proofs.YtekoaaiemmblgaaW.PrintMore
attribute [local go_sem] max2_int min2_int max_two min_two max_three min_three max_four min_four   -- for this text's walks alone
set_option linter.unusedVariables false
set_option linter.unusedSimpArgs false
attribute [local go_sem] bin_leq bin_gtr bin_geq
def impl_isHead.f (a0 : Int) : Option (Bool) := (impl_within.f a0 1 60).bind fun t390 => (some t390)
set_option maxHeartbeats 8000000 in
set_option maxRecDepth 100000 in
theorem impl_isHead.calls (a0 : Int) (r : Bool) (w : World) (h : impl_isHead.f a0 = some r) :
    Calls Try.prog 130 #[.int .i64 a0] w fun e w' => e = .returned (.bool r) ∧ Drawn0 w w' := by
  have H : ((impl_within.f a0 1 60).bind fun t390 => (some t390)) = some r := h
  clear h
  replace H := Option.bind_eq_some_iff.mp H
  obtain ⟨t390, A20, H⟩ := H
  replace H : (some t390) = some r := H
  have A2 := Aside0.mk A20
  clear A20
  obtain rfl := Option.some.inj H
  go_enter Try.func130, Try.ntmps130
  go_wp2_with (first | ((with_reducible refine gate_callee (f := 80) rfl ?_); refine goesL_ (some 4) rfl rfl Try.func80 (by kernel_rfl) rfl #[.int .i64 a0, .int .i64 1, .int .i64 60] rfl gA ?_; (with_reducible refine (impl_within.calls a0 1 60 t390 _ A2.out).mono ?_); rintro e w' ⟨rfl, ⟨nd, rfl⟩⟩; refine ⟨_, rfl, ?_⟩))
  go_ret
  exact ⟨by first | rfl | (simp; done) | (simp [*]; done), by repeat (first | exact Drawn0.refl _ | apply Drawn0.step)⟩
end Go.Proofs.Ytekoaaiemmblgaa.Q
end

section
namespace Go.Proofs.Ytekoaaiemmblgaa.Q
open Go.RowKit Go.Proofs.YtekoaaiemmblgaaW.PrintWords Go.Proofs.YtekoaaiemmblgaaW.PrintLast Go.Proofs.YtekoaaiemmblgaaW.PrintMore
attribute [local go_sem] max2_int min2_int max_two min_two max_three min_three max_four min_four   -- for this text's walks alone
set_option linter.unusedVariables false
set_option linter.unusedSimpArgs false
attribute [local go_sem] bin_leq bin_gtr bin_geq
def impl_isRef.f (a0_0 : ByteArray) (a0_1 : Int) (a0_2 : Int) (a0_3 : Bool) : Option (Bool) := (impl_NameOK.f a0_0).bind fun t392 => (if t392 = true then ((impl_within.f a0_2 1 1000000).bind fun t393 => (if t393 = true then (if a0_3 = true then (if a0_1 = 0 then (some true) else (some false)) else ((impl_isHead.f a0_1).bind fun t394 => (some t394))) else (some false))) else (some false))
set_option maxHeartbeats 8000000 in
set_option maxRecDepth 100000 in
theorem impl_isRef.calls (a0_0 : ByteArray) (a0_1 : Int) (a0_2 : Int) (a0_3 : Bool) (r : Bool) (w : World) (h : impl_isRef.f a0_0 a0_1 a0_2 a0_3 = some r) :
    Calls Try.prog 110 #[.agg #[.string a0_0, .int .i64 a0_1, .int .i64 a0_2, .bool a0_3]] w fun e w' => e = .returned (.bool r) ∧ Below w.heap.size w w' := by
  have hu92 := Try.underlying92
  have HB := Aside0.mk (Below.refl w.heap.size w)
  have H : ((impl_NameOK.f a0_0).bind fun t392 => (if t392 = true then ((impl_within.f a0_2 1 1000000).bind fun t393 => (if t393 = true then (if a0_3 = true then (if a0_1 = 0 then (some true) else (some false)) else ((impl_isHead.f a0_1).bind fun t394 => (some t394))) else (some false))) else (some false))) = some r := h
  clear h
  replace H := Option.bind_eq_some_iff.mp H
  obtain ⟨t392, A20, H⟩ := H
  replace H : (if t392 = true then ((impl_within.f a0_2 1 1000000).bind fun t393 => (if t393 = true then (if a0_3 = true then (if a0_1 = 0 then (some true) else (some false)) else ((impl_isHead.f a0_1).bind fun t394 => (some t394))) else (some false))) else (some false)) = some r := H
  have A2 := Aside0.mk A20
  clear A20
  by_cases c3 : t392 = true
  · subst c3
    have H1 : ((impl_within.f a0_2 1 1000000).bind fun t393 => (if t393 = true then (if a0_3 = true then (if a0_1 = 0 then (some true) else (some false)) else ((impl_isHead.f a0_1).bind fun t394 => (some t394))) else (some false))) = some r := by rw [if_pos rfl] at H; exact H
    clear H
    have H := H1
    clear H1
    replace H := Option.bind_eq_some_iff.mp H
    obtain ⟨t393, A40, H⟩ := H
    replace H : (if t393 = true then (if a0_3 = true then (if a0_1 = 0 then (some true) else (some false)) else ((impl_isHead.f a0_1).bind fun t394 => (some t394))) else (some false)) = some r := H
    have A4 := Aside0.mk A40
    clear A40
    by_cases c5 : t393 = true
    · subst c5
      have H1 : (if a0_3 = true then (if a0_1 = 0 then (some true) else (some false)) else ((impl_isHead.f a0_1).bind fun t394 => (some t394))) = some r := by rw [if_pos rfl] at H; exact H
      clear H
      have H := H1
      clear H1
      by_cases c6 : a0_3 = true
      · subst c6
        have H1 : (if a0_1 = 0 then (some true) else (some false)) = some r := by rw [if_pos rfl] at H; exact H
        clear H
        have H := H1
        clear H1
        by_cases c7 : a0_1 = 0
        · rw [if_pos c7] at H
          have c7b0 : (a0_1 == 0) = true := beq_iff_eq.mpr c7
          have c7b1 : (a0_1 != 0) = false := bne_eq_false_iff_eq.mpr c7
          clear c7
          obtain rfl := Option.some.inj H
          go_enter Try.func110, Try.ntmps110
          go_wp2_with (first | ((with_reducible refine gate_dst (N := 1) rfl ?_); refine bE (N := 1) (cs := #[.string a0_0, .int .i64 a0_1, .int .i64 a0_2, .bool true]) (t := 92) ?_; intro gb391 hg w8 hbox hb; have n0_ := Aside0.mk (below_step (w := w) bW hb); have n1_ := Aside0.mk (hbox); have n2_ := Aside0.mk (gS (w := w) hg); have n3_ := n2_; clear HB; have HB := n0_; have BK391 := n1_; have GW391 := n2_; have GE391 := n3_; clear n0_ n1_ n2_ n3_; clear hb hbox hg; obtain ⟨hcz9_0, hcz9_1, hcz9_2, hcz9_3⟩ := cz4 BK391; obtain ⟨hfz9_0, hfz9_1, hfz9_2, hfz9_3⟩ := fz4 BK391) | ((with_reducible refine gate_callee (f := 79) rfl ?_); refine goesL_ (some 5) rfl rfl Try.func79 (by kernel_rfl) rfl #[.string a0_0] rfl gA ?_; (with_reducible refine (impl_NameOK.calls a0_0 true _ A2.out).mono ?_); rintro e w10 ⟨rfl, hb⟩; refine ⟨_, rfl, ?_⟩; have n0_ := Aside0.mk (kb BK391 hb); have n1_ := Aside0.mk (below_step (w := w) bW hb); clear BK391; clear HB; have BK391 := n0_; have HB := n1_; clear n0_ n1_; (try clear hb); (try clear hb2); (try clear hk); (try clear hi); obtain ⟨hcz11_0, hcz11_1, hcz11_2, hcz11_3⟩ := cz4 BK391; obtain ⟨hfz11_0, hfz11_1, hfz11_2, hfz11_3⟩ := fz4 BK391) | (go_at_call 80; (with_reducible refine (impl_within.calls a0_2 1 1000000 true _ A4.out).mono ?_); rintro e w' ⟨rfl, ⟨nd, rfl⟩⟩))
          go_ret
          exact ⟨rE, bW⟩
        · rw [if_neg c7] at H
          have c7b0 : (a0_1 == 0) = false := beq_eq_false_iff_ne.mpr c7
          have c7b1 : (a0_1 != 0) = true := bne_iff_ne.mpr c7
          obtain rfl := Option.some.inj H
          go_enter Try.func110, Try.ntmps110
          go_wp2_with (first | ((with_reducible refine gate_dst (N := 1) rfl ?_); refine bE (N := 1) (cs := #[.string a0_0, .int .i64 a0_1, .int .i64 a0_2, .bool true]) (t := 92) ?_; intro gb391 hg w12 hbox hb; have n0_ := Aside0.mk (below_step (w := w) bW hb); have n1_ := Aside0.mk (hbox); have n2_ := Aside0.mk (gS (w := w) hg); have n3_ := n2_; clear HB; have HB := n0_; have BK391 := n1_; have GW391 := n2_; have GE391 := n3_; clear n0_ n1_ n2_ n3_; clear hb hbox hg; obtain ⟨hcz13_0, hcz13_1, hcz13_2, hcz13_3⟩ := cz4 BK391; obtain ⟨hfz13_0, hfz13_1, hfz13_2, hfz13_3⟩ := fz4 BK391) | ((with_reducible refine gate_callee (f := 79) rfl ?_); refine goesL_ (some 5) rfl rfl Try.func79 (by kernel_rfl) rfl #[.string a0_0] rfl gA ?_; (with_reducible refine (impl_NameOK.calls a0_0 true _ A2.out).mono ?_); rintro e w14 ⟨rfl, hb⟩; refine ⟨_, rfl, ?_⟩; have n0_ := Aside0.mk (kb BK391 hb); have n1_ := Aside0.mk (below_step (w := w) bW hb); clear BK391; clear HB; have BK391 := n0_; have HB := n1_; clear n0_ n1_; (try clear hb); (try clear hb2); (try clear hk); (try clear hi); obtain ⟨hcz15_0, hcz15_1, hcz15_2, hcz15_3⟩ := cz4 BK391; obtain ⟨hfz15_0, hfz15_1, hfz15_2, hfz15_3⟩ := fz4 BK391) | (go_at_call 80; (with_reducible refine (impl_within.calls a0_2 1 1000000 true _ A4.out).mono ?_); rintro e w' ⟨rfl, ⟨nd, rfl⟩⟩))
          go_ret
          exact ⟨rE, bW⟩
      · replace c6 := Bool.eq_false_iff.mpr c6
        subst c6
        have H1 : ((impl_isHead.f a0_1).bind fun t394 => (some t394)) = some r := by rw [if_neg (show ¬ (false = true) by decide)] at H; exact H
        clear H
        have H := H1
        clear H1
        replace H := Option.bind_eq_some_iff.mp H
        obtain ⟨t394, A160, H⟩ := H
        replace H : (some t394) = some r := H
        have A16 := Aside0.mk A160
        clear A160
        obtain rfl := Option.some.inj H
        go_enter Try.func110, Try.ntmps110
        go_wp2_with (first | ((with_reducible refine gate_dst (N := 1) rfl ?_); refine bE (N := 1) (cs := #[.string a0_0, .int .i64 a0_1, .int .i64 a0_2, .bool false]) (t := 92) ?_; intro gb391 hg w17 hbox hb; have n0_ := Aside0.mk (below_step (w := w) bW hb); have n1_ := Aside0.mk (hbox); have n2_ := Aside0.mk (gS (w := w) hg); have n3_ := n2_; clear HB; have HB := n0_; have BK391 := n1_; have GW391 := n2_; have GE391 := n3_; clear n0_ n1_ n2_ n3_; clear hb hbox hg; obtain ⟨hcz18_0, hcz18_1, hcz18_2, hcz18_3⟩ := cz4 BK391; obtain ⟨hfz18_0, hfz18_1, hfz18_2, hfz18_3⟩ := fz4 BK391) | ((with_reducible refine gate_callee (f := 79) rfl ?_); refine goesL_ (some 5) rfl rfl Try.func79 (by kernel_rfl) rfl #[.string a0_0] rfl gA ?_; (with_reducible refine (impl_NameOK.calls a0_0 true _ A2.out).mono ?_); rintro e w19 ⟨rfl, hb⟩; refine ⟨_, rfl, ?_⟩; have n0_ := Aside0.mk (kb BK391 hb); have n1_ := Aside0.mk (below_step (w := w) bW hb); clear BK391; clear HB; have BK391 := n0_; have HB := n1_; clear n0_ n1_; (try clear hb); (try clear hb2); (try clear hk); (try clear hi); obtain ⟨hcz20_0, hcz20_1, hcz20_2, hcz20_3⟩ := cz4 BK391; obtain ⟨hfz20_0, hfz20_1, hfz20_2, hfz20_3⟩ := fz4 BK391) | (go_at_call 80; (with_reducible refine (impl_within.calls a0_2 1 1000000 true _ A4.out).mono ?_); rintro e w' ⟨rfl, ⟨nd, rfl⟩⟩) | (go_at_call 130; (with_reducible refine (impl_isHead.calls a0_1 t394 _ A16.out).mono ?_); rintro e w' ⟨rfl, ⟨nd, rfl⟩⟩))
        go_ret
        exact ⟨rE, bW⟩
    · replace c5 := Bool.eq_false_iff.mpr c5
      subst c5
      have H1 : (some false) = some r := by rw [if_neg (show ¬ (false = true) by decide)] at H; exact H
      clear H
      have H := H1
      clear H1
      obtain rfl := Option.some.inj H
      go_enter Try.func110, Try.ntmps110
      go_wp2_with (first | ((with_reducible refine gate_dst (N := 1) rfl ?_); refine bE (N := 1) (cs := #[.string a0_0, .int .i64 a0_1, .int .i64 a0_2, .bool a0_3]) (t := 92) ?_; intro gb391 hg w21 hbox hb; have n0_ := Aside0.mk (below_step (w := w) bW hb); have n1_ := Aside0.mk (hbox); have n2_ := Aside0.mk (gS (w := w) hg); have n3_ := n2_; clear HB; have HB := n0_; have BK391 := n1_; have GW391 := n2_; have GE391 := n3_; clear n0_ n1_ n2_ n3_; clear hb hbox hg; obtain ⟨hcz22_0, hcz22_1, hcz22_2, hcz22_3⟩ := cz4 BK391; obtain ⟨hfz22_0, hfz22_1, hfz22_2, hfz22_3⟩ := fz4 BK391) | ((with_reducible refine gate_callee (f := 79) rfl ?_); refine goesL_ (some 5) rfl rfl Try.func79 (by kernel_rfl) rfl #[.string a0_0] rfl gA ?_; (with_reducible refine (impl_NameOK.calls a0_0 true _ A2.out).mono ?_); rintro e w23 ⟨rfl, hb⟩; refine ⟨_, rfl, ?_⟩; have n0_ := Aside0.mk (kb BK391 hb); have n1_ := Aside0.mk (below_step (w := w) bW hb); clear BK391; clear HB; have BK391 := n0_; have HB := n1_; clear n0_ n1_; (try clear hb); (try clear hb2); (try clear hk); (try clear hi); obtain ⟨hcz24_0, hcz24_1, hcz24_2, hcz24_3⟩ := cz4 BK391; obtain ⟨hfz24_0, hfz24_1, hfz24_2, hfz24_3⟩ := fz4 BK391) | (go_at_call 80; (with_reducible refine (impl_within.calls a0_2 1 1000000 false _ A4.out).mono ?_); rintro e w' ⟨rfl, ⟨nd, rfl⟩⟩))
      go_ret
      exact ⟨rE, bW⟩
  · replace c3 := Bool.eq_false_iff.mpr c3
    subst c3
    have H1 : (some false) = some r := by rw [if_neg (show ¬ (false = true) by decide)] at H; exact H
    clear H
    have H := H1
    clear H1
    obtain rfl := Option.some.inj H
    go_enter Try.func110, Try.ntmps110
    go_wp2_with (first | ((with_reducible refine gate_dst (N := 1) rfl ?_); refine bE (N := 1) (cs := #[.string a0_0, .int .i64 a0_1, .int .i64 a0_2, .bool a0_3]) (t := 92) ?_; intro gb391 hg w25 hbox hb; have n0_ := Aside0.mk (below_step (w := w) bW hb); have n1_ := Aside0.mk (hbox); have n2_ := Aside0.mk (gS (w := w) hg); have n3_ := n2_; clear HB; have HB := n0_; have BK391 := n1_; have GW391 := n2_; have GE391 := n3_; clear n0_ n1_ n2_ n3_; clear hb hbox hg; obtain ⟨hcz26_0, hcz26_1, hcz26_2, hcz26_3⟩ := cz4 BK391; obtain ⟨hfz26_0, hfz26_1, hfz26_2, hfz26_3⟩ := fz4 BK391) | ((with_reducible refine gate_callee (f := 79) rfl ?_); refine goesL_ (some 5) rfl rfl Try.func79 (by kernel_rfl) rfl #[.string a0_0] rfl gA ?_; (with_reducible refine (impl_NameOK.calls a0_0 false _ A2.out).mono ?_); rintro e w27 ⟨rfl, hb⟩; refine ⟨_, rfl, ?_⟩; have n0_ := Aside0.mk (kb BK391 hb); have n1_ := Aside0.mk (below_step (w := w) bW hb); clear BK391; clear HB; have BK391 := n0_; have HB := n1_; clear n0_ n1_; (try clear hb); (try clear hb2); (try clear hk); (try clear hi)))
    go_ret
    exact ⟨rE, bW⟩
end Go.Proofs.Ytekoaaiemmblgaa.Q
end

section
namespace Go.Proofs.Ytekoaaiemmblgaa.Q
open Go.RowKit Go.Proofs.YtekoaaiemmblgaaW.PrintWords Go.Proofs.YtekoaaiemmblgaaW.PrintLast Go.Proofs.YtekoaaiemmblgaaW.PrintMore
attribute [local go_sem] max2_int min2_int max_two min_two max_three min_three max_four min_four   -- for this text's walks alone
set_option linter.unusedVariables false
set_option linter.unusedSimpArgs false
attribute [local go_sem] bin_leq bin_gtr bin_geq
set_option maxHeartbeats 2000000 in
set_option maxRecDepth 100000 in
theorem hasF_Ref (g : Nat) (lb : Array Value) (eg : ∀ args w, (callFunc g args).run Try.prog w = .ok (.enter g args) w) (p : S92 → Bool) (A0 : Option Addr) (c0 : Nat) (l0 : List S92) (w : World) (hr0 : Kd.C k92 w A0 l0.length l0) (hc0 : l0.length ≤ c0) (hp : Asks_Ref g lb p w l0) :
    Calls Try.prog 112 #[.slice A0 l0.length c0, .func (.func g) #[] lb] w fun e w' => e = .returned (.bool (decide (0 ≤ idxI p l0))) ∧ Below w.heap.size w w' := by
  have HR0 := Aside0.mk hr0
  have HC0 := Aside0.mk hc0
  have HP := Aside0.mk hp
  have HE := Aside0.mk eg
  clear hr0 hc0 hp eg
  go_enter Try.func112, Try.ntmps112
  go_wp2_with (refine (idxF_Ref g lb HE.out p A0 c0 l0 _ HR0.out HC0.out HP.out).mono ?_; rintro e w' ⟨rfl, hb⟩)
  go_ret
  exact ⟨rfl, hb⟩
theorem notF_Ref (g : Nat) (lb : Array Value) (eg : ∀ args w, (callFunc g args).run Try.prog w = .ok (.enter g args) w) (p : S92 → Bool) (l : List S92) (w : World) (B : Nat) (hB : B < w.heap.size) (hc : w.cell? ⟨B, 0, none⟩ = some (.func (.func g) #[] lb)) (hp : Asks_Ref g lb p w l) :
    Asks_Ref 113 #[.pointer (some ⟨B, 0, none⟩)] (fun x => !p x) w l := by
  intro W x hW hx
  have hc' : W.cell? ⟨B, 0, none⟩ = some (.func (.func g) #[] lb) := (hW.cell (p := ⟨B, 0, none⟩) hB).trans hc
  have hB' : B < W.heap.size := Nat.lt_of_lt_of_le hB hW.size
  have HBX : Below W.heap.size W (W.alloc (.cells #[.string x.f0, .int .i64 x.f1, .int .i64 x.f2, .bool x.f3] 92)) := (Below.refl _ _).alloc (Nat.le_refl _) _
  have hcb : (W.alloc (.cells #[.string x.f0, .int .i64 x.f1, .int .i64 x.f2, .bool x.f3] 92)).cell? ⟨B, 0, none⟩ = some (.func (.func g) #[] lb) := (HBX.cell (p := ⟨B, 0, none⟩) hB').trans hc'
  have HC := Aside0.mk (hp _ x (below_then hW hW.size HBX) hx)
  have HBA := Aside0.mk HBX
  clear hp hx hc HBX
  go_enter Try.func113, Try.ntmps113
  go_wp2_with (refine HC.out.mono ?_; rintro e w' ⟨rfl, hb⟩)
  go_ret
  exact ⟨rfl, below_then HBA.out HBA.out.size hb⟩
set_option maxHeartbeats 2000000 in
set_option maxRecDepth 100000 in
theorem allF_Ref (g : Nat) (lb : Array Value) (eg : ∀ args w, (callFunc g args).run Try.prog w = .ok (.enter g args) w) (p : S92 → Bool) (A0 : Option Addr) (c0 : Nat) (l0 : List S92) (w : World) (hr0 : Kd.C k92 w A0 l0.length l0) (hc0 : l0.length ≤ c0) (hp : Asks_Ref g lb p w l0) :
    Calls Try.prog 76 #[.slice A0 l0.length c0, .func (.func g) #[] lb] w fun e w' => e = .returned (.bool (l0.all p)) ∧ Below w.heap.size w w' := by
  have e94 := idxI_all p l0
  have HN := Aside0.mk e94
  have HB0 : Below w.heap.size w (w.alloc (.cells #[.func (.func g) #[] lb] 101)) := (Below.refl _ _).alloc (Nat.le_refl _) _
  have HR0 := Aside0.mk (Kd.C_below hr0 HB0)
  have HP := Aside0.mk (notF_Ref g lb eg p l0 (w.alloc (.cells #[.func (.func g) #[] lb] 101)) w.heap.size (by simp) (by simp) (fun W x hW hx => hp W x (below_then HB0 HB0.size hW) hx))
  have HC0 := Aside0.mk hc0
  have HBA := Aside0.mk HB0
  clear hr0 hc0 hp eg e94 HB0
  go_enter Try.func76, Try.ntmps76
  go_wp2_with (refine (hasF_Ref 113 #[.pointer (some ⟨w.heap.size, 0, none⟩)] (enters_ Try.func113 (by kernel_rfl) rfl) (fun x => !p x) A0 c0 l0 _ HR0.out HC0.out HP.out).mono ?_; rintro e w' ⟨rfl, hb⟩)
  go_ret
  refine ⟨?_, below_then HBA.out HBA.out.size hb⟩
  show Ending.returned (.bool (!decide (0 ≤ idxI (fun x => !p x) l0))) = _
  rw [HN.out]
end Go.Proofs.Ytekoaaiemmblgaa.Q
end

section
namespace Go.Proofs.Ytekoaaiemmblgaa.Q
open Go.RowKit Go.Proofs.YtekoaaiemmblgaaW.PrintWords Go.Proofs.YtekoaaiemmblgaaW.PrintLast Go.Proofs.YtekoaaiemmblgaaW.PrintMore
attribute [local go_sem] max2_int min2_int max_two min_two max_three min_three max_four min_four   -- for this text's walks alone
set_option linter.unusedVariables false
set_option linter.unusedSimpArgs false
attribute [local go_sem] bin_leq bin_gtr bin_geq
theorem isHead_f (n : Int) : impl_isHead.f n = some (inB n 1 60) := by
  unfold impl_isHead.f impl_within.f inB
  by_cases h : 1 ≤ n <;> simp [h]
theorem isRef_f (x : S92) : impl_isRef.f x.f0 x.f1 x.f2 x.f3 = some (refB x) := by
  unfold impl_isRef.f impl_NameOK.f impl_within.f refB inB
  simp only [Option.bind_some, isHead_f]
  cases h0 : nameB x.f0
  · simp
  · by_cases h1 : 1 ≤ x.f2 <;> by_cases h2 : x.f2 ≤ 1000000 <;> cases h3 : x.f3 <;> by_cases h4 : x.f1 = 0 <;> simp [h1, h2, h4, inB]
def areAllRef_isRef.f (l0 : List (S92)) : Option (Bool) := some (l0.all refB)
theorem areAllRef_isRef.calls (A0 : Option Addr) (c0 : Nat) (l0 : List (S92)) (r : Bool) (w : World) (hr0 : Kd.C k92 w A0 l0.length l0) (hc0 : l0.length ≤ c0) (h : areAllRef_isRef.f l0 = some r) :
    Calls Try.prog 76 #[.slice A0 l0.length c0, .func (.func 110) #[] #[]] w fun e w' => e = .returned (.bool r) ∧ Below w.heap.size w w' := by
  obtain rfl := Option.some.inj h
  refine allF_Ref 110 #[] (enters_ Try.func110 (by kernel_rfl) rfl) refB A0 c0 l0 w hr0 hc0 ?_
  intro W x hW hx
  exact impl_isRef.calls x.f0 x.f1 x.f2 x.f3 (refB x) W (isRef_f x)
end Go.Proofs.Ytekoaaiemmblgaa.Q
end

section
namespace Go.Proofs.Ytekoaaiemmblgaa.Q
open Go.RowKit Go.Proofs.YtekoaaiemmblgaaW.PrintWords Go.Proofs.YtekoaaiemmblgaaW.PrintLast Go.Proofs.YtekoaaiemmblgaaW.PrintMore
attribute [local go_sem] max2_int min2_int max_two min_two max_three min_three max_four min_four   -- for this text's walks alone
set_option linter.unusedVariables false
set_option linter.unusedSimpArgs false
attribute [local go_sem] bin_leq bin_gtr bin_geq
mutual
def impl_RefsOK.j0 : Nat → List (S92) → Bool → Option (Bool)
 | 0, _, _ => none
 | k + 1, x0, x12 => if x12 = true then (some false) else (impl_RefsOK.l0 k x0 x0 (x0.length : Int) 0)
def impl_RefsOK.l0 : Nat → List (S92) → List (S92) → Int → Int → Option (Bool)
 | 0, _, _, _, _ => none
 | k + 1, x0, x13, x14, x15 => if x15 < x14 then (if 0 ≤ x15 then (if x15 < (x13.length : Int) then (if x15 ≤ (x0.length : Int) then ((impl_place.f (x0.take (x15 : Int).toNat) ((rd_T92 x13 x15).f0)).bind fun t402 => (if t402 ≥ 0 then (some false) else (impl_RefsOK.l0 k x0 x13 x14 (wrap64 (x15 + 1))))) else (none)) else (none)) else (none)) else (some true)
end
def impl_RefsOK.f (k : Nat) (l0 : List (S92)) : Option (Bool) := if (l0.length : Int) > 8 then (impl_RefsOK.j0 k l0 true) else ((areAllRef_isRef.f l0).bind fun t395 => (impl_RefsOK.j0 k l0 (!t395)))
set_option maxHeartbeats 8000000 in
set_option maxRecDepth 100000 in
theorem impl_RefsOK.calls (k : Nat) (A0 : Option Addr) (c0 : Nat) (l0 : List (S92)) (r : Bool) (w : World) (hr0 : Kd.C k92 w A0 l0.length l0) (hc0 : l0.length ≤ c0) (h : impl_RefsOK.f k l0 = some r) :
  Calls Try.prog 75 #[.slice A0 l0.length c0] w fun e w' => e = .returned (.bool r) ∧ Below w.heap.size w w' := by
 have hu92 := Try.underlying92
 have HR0 := Aside0.mk hr0
 have HC0 := Aside0.mk hc0
 clear hr0 hc0
 have HB := Aside0.mk (Below.refl w.heap.size w)
 have H : (if (l0.length : Int) > 8 then (impl_RefsOK.j0 k l0 true) else ((areAllRef_isRef.f l0).bind fun t395 => (impl_RefsOK.j0 k l0 (!t395)))) = some r := h
 clear h
 have HC2 := Aside0.mk H
 clear H
 go_enter Try.func75, Try.ntmps75
 go_upto_region 1 with (fail)
 go_cut [12] (fun v12 wc => ∃ (kq : Nat) (x12_1 : Bool), v12 = .bool x12_1 ∧ Aside0 (impl_RefsOK.j0 kq l0 x12_1 = some r) ∧ Aside0 (kq ≤ k) ∧ Aside0 (Below w.heap.size w wc))
 case first =>
  have H := HC2.out
  clear HC2
  by_cases c3 : (l0.length : Int) > 8
  ·rw [if_pos c3] at H
   have c3b0 : decide (8 < (l0.length : Int)) = true := decide_eq_true c3
   have c3b1 : decide (8 < l0.length) = true := decide_eq_true (by omega)
   clear c3
   (first | rw [c3b0] | (simp only [i64_w, i32_w]; rw [c3b0]) | skip)
   have H' := Aside0.mk H
   clear H
   go_wp2
   go_meet
   case rel => exact ⟨_, (true), vE, H', ⟨by first | omega | exact Nat.le_refl _⟩, ⟨bW⟩⟩
  ·rw [if_neg c3] at H
   have c3b0 : decide (8 < (l0.length : Int)) = false := decide_eq_false c3
   have c3b1 : decide (8 < l0.length) = false := decide_eq_false (by omega)
   clear c3
   (first | rw [c3b0] | (simp only [i64_w, i32_w]; rw [c3b0]) | skip)
   replace H := Option.bind_eq_some_iff.mp H
   obtain ⟨t395, A40, H⟩ := H
   replace H : (impl_RefsOK.j0 k l0 (!t395)) = some r := H
   have A4 := Aside0.mk A40
   clear A40
   have H' := Aside0.mk H
   clear H
   go_wp2_with (first | (go_at_call 76; (with_reducible refine (areAllRef_isRef.calls _ _ l0 t395 _ ?side1 ?side2 A4.out).mono ?_); (case side1 => exact cB HR0); (case side2 => exact HC0.out); rintro e w5 ⟨rfl, hb⟩; have n0_ := Aside0.mk (below_step (w := w) bW hb); clear HB; have HB := n0_; clear n0_; (try clear hb); (try clear hb2); (try clear hk); (try clear hi)))
   go_meet
   case rel => exact ⟨_, (!t395), vE, H', ⟨by first | omega | exact Nat.le_refl _⟩, ⟨bW⟩⟩
 case rest =>
  clear HC2
  try clear p2
  try clear c3
  try clear c3b0
  try clear c3b1
  obtain ⟨kq, x12_1, rfl, HA, HJ1, HB⟩ := hcut
  cases kq with
  | zero => exact absurd HA.out (by simp [impl_RefsOK.j0])
  | succ kj1 =>
   have H := HA.out
   clear HA
   simp only [impl_RefsOK.j0] at H
   by_cases c6 : x12_1 = true
   ·subst c6
    have H1 : (some false) = some r := by rw [if_pos rfl] at H; exact H
    clear H
    have H := H1
    clear H1
    obtain rfl := Option.some.inj H
    go_wp2
    go_ret
    exact ⟨rE, bW⟩
   ·replace c6 := Bool.eq_false_iff.mpr c6
    subst c6
    have H1 : (impl_RefsOK.l0 kj1 l0 l0 (l0.length : Int) 0) = some r := by rw [if_neg (show ¬ (false = true) by decide)] at H; exact H
    clear H
    have H := H1
    clear H1
    have H' := Aside0.mk H
    clear H
    go_wp2
    go_loopg [15] kj1 (fun kq v15 w' => ∃ (x15_2 : Int), v15 = .int .i64 x15_2 ∧ Aside0 (impl_RefsOK.l0 kq l0 l0 (l0.length : Int) x15_2 = some r) ∧ Aside0 (kq ≤ kj1) ∧ Aside0 (Below w.heap.size w w'))
    case atStart => exact ⟨(0), vE, H', ⟨Nat.le_refl _⟩, ⟨bW⟩⟩
    case round =>
     clear H'
     try clear p2
     try clear c3
     try clear c3b0
     try clear c3b1
     try clear c6
     try clear p2
     obtain ⟨x15_2, rfl, HA, HK2, HB⟩ := hrel
     cases gk with
     | zero => exact absurd HA.out (by simp [impl_RefsOK.l0])
     | succ k2 =>
      have H := HA.out
      clear HA
      simp only [impl_RefsOK.l0] at H
      by_cases c7 : x15_2 < (l0.length : Int)
      ·rw [if_pos c7] at H
       have c7b0 : decide (x15_2 < (l0.length : Int)) = true := decide_eq_true c7
       clear c7
       by_cases c8 : 0 ≤ x15_2
       ·rw [if_pos c8] at H
        have c8b0 : decide (0 ≤ x15_2) = true := decide_eq_true c8
        clear c8
        by_cases c9 : x15_2 < (l0.length : Int)
        ·rw [if_pos c9] at H
         have c9b0 : decide (x15_2 < (l0.length : Int)) = true := decide_eq_true c9
         clear c9
         have c10b0 := eq_true (odt : 0 ≤ x15_2)
         by_cases c11 : x15_2 ≤ (l0.length : Int)
         ·rw [if_pos c11] at H
          have c11b0 := eq_true c11
          have c11b1 : decide (x15_2 ≤ (l0.length : Int)) = true := decide_eq_true c11
          clear c11
          obtain ⟨y398, hy398⟩ : ∃ y_ : List (S92), y_ = (l0.take (x15_2 : Int).toNat) := ⟨_, rfl⟩
          replace H : ((impl_place.f y398 ((rd_T92 l0 x15_2).f0)).bind fun t402 => (if t402 ≥ 0 then (some false) else (impl_RefsOK.l0 k2 l0 l0 (l0.length : Int) (wrap64 (x15_2 + 1))))) = some r := by first | (rw [hy398]; with_reducible exact H) | (have H2_ := (Option.bind_some _ _).symm.trans H; rw [hy398]; with_reducible exact H2_) | (have H2_ := (Option.bind_some _ _).symm.trans H; with_reducible exact H2_) | with_reducible exact H | (rw [hy398]; exact H) | exact H
          have Ny398 := Aside0.mk hy398
          clear hy398
          replace H := Option.bind_eq_some_iff.mp H
          obtain ⟨t402, A120, H⟩ := H
          replace H : (if t402 ≥ 0 then (some false) else (impl_RefsOK.l0 k2 l0 l0 (l0.length : Int) (wrap64 (x15_2 + 1)))) = some r := H
          have A12 := Aside0.mk A120
          clear A120
          by_cases c13 : t402 ≥ 0
          ·rw [if_pos c13] at H
           have c13b0 : decide (0 ≤ t402) = true := decide_eq_true c13
           clear c13
           obtain rfl := Option.some.inj H
           have p396 : 0 ≤ (x15_2 : Int) := odt
           have q396 : x15_2 < (l0.length : Int) := odt
           obtain ⟨ad396, e396, hx396_0, hx396_1, hx396_2, hx396_3⟩ := at_T92 HR0.out x15_2 p396 q396
           cases e396
           replace hx396_0 := (HB.out.cell (World.block_lt_of_cell? w _ hx396_0)).trans hx396_0
           replace hx396_1 := (HB.out.cell (World.block_lt_of_cell? w _ hx396_1)).trans hx396_1
           replace hx396_2 := (HB.out.cell (World.block_lt_of_cell? w _ hx396_2)).trans hx396_2
           replace hx396_3 := (HB.out.cell (World.block_lt_of_cell? w _ hx396_3)).trans hx396_3
           replace p396 := eq_true p396
           replace q396 := eq_true q396
           try go_wp2_with (first | ((with_reducible refine gate_dst (N := 4) rfl ?_); refine bE (N := 4) (cs := #[.string (⟨#[]⟩ : ByteArray), .int .i64 0, .int .i64 0, .bool false]) (t := 92) ?_; intro gb397 hg w14 hbox hb; have n0_ := Aside0.mk (below_step (w := w) bW hb); have n1_ := Aside0.mk (hbox); have n2_ := Aside0.mk (gS (w := w) hg); have n3_ := n2_; clear HB; have HB := n0_; have BK397 := n1_; have GW397 := n2_; have GE397 := n3_; clear n0_ n1_ n2_ n3_; clear hb hbox hg; obtain ⟨hcz15_0, hcz15_1, hcz15_2, hcz15_3⟩ := cz4 BK397; obtain ⟨hfz15_0, hfz15_1, hfz15_2, hfz15_3⟩ := fz4 BK397))
           have n0_ : Aside0 (((((w14.setCell ⟨gb397, 0, none⟩ (.string ((rd_T92 l0 x15_2).f0))).setCell ⟨gb397, 1, none⟩ (.int .i64 ((rd_T92 l0 x15_2).f1))).setCell ⟨gb397, 2, none⟩ (.int .i64 ((rd_T92 l0 x15_2).f2))).setCell ⟨gb397, 3, none⟩ (.bool ((rd_T92 l0 x15_2).f3))).heap[gb397]? = some (.cells #[.string ((rd_T92 l0 x15_2).f0), .int .i64 ((rd_T92 l0 x15_2).f1), .int .i64 ((rd_T92 l0 x15_2).f2), .bool ((rd_T92 l0 x15_2).f3)] 92 (0, 0))) := ⟨by (with_reducible repeat (first | refine blk_drewN ?_ _ | refine blk_drew ?_ | refine blk_alloc ?_ _)); refine blk_put (cs := #[.string ((rd_T92 l0 x15_2).f0), .int .i64 ((rd_T92 l0 x15_2).f1), .int .i64 ((rd_T92 l0 x15_2).f2), .bool false]) ?_ 3 _ rfl; (with_reducible repeat (first | refine blk_drewN ?_ _ | refine blk_drew ?_ | refine blk_alloc ?_ _)); refine blk_put (cs := #[.string ((rd_T92 l0 x15_2).f0), .int .i64 ((rd_T92 l0 x15_2).f1), .int .i64 0, .bool false]) ?_ 2 _ rfl; (with_reducible repeat (first | refine blk_drewN ?_ _ | refine blk_drew ?_ | refine blk_alloc ?_ _)); refine blk_put (cs := #[.string ((rd_T92 l0 x15_2).f0), .int .i64 0, .int .i64 0, .bool false]) ?_ 1 _ rfl; (with_reducible repeat (first | refine blk_drewN ?_ _ | refine blk_drew ?_ | refine blk_alloc ?_ _)); refine blk_put (cs := #[.string (⟨#[]⟩ : ByteArray), .int .i64 0, .int .i64 0, .bool false]) ?_ 0 _ rfl; (with_reducible repeat (first | refine blk_drewN ?_ _ | refine blk_drew ?_ | refine blk_alloc ?_ _)); exact BK397.out⟩
           have n1_ : Aside0 (Below w.heap.size w ((((w14.setCell ⟨gb397, 0, none⟩ (.string ((rd_T92 l0 x15_2).f0))).setCell ⟨gb397, 1, none⟩ (.int .i64 ((rd_T92 l0 x15_2).f1))).setCell ⟨gb397, 2, none⟩ (.int .i64 ((rd_T92 l0 x15_2).f2))).setCell ⟨gb397, 3, none⟩ (.bool ((rd_T92 l0 x15_2).f3)))) := ⟨bW⟩
           (try clear BK397)
           (try clear HB)
           generalize ((((w14.setCell ⟨gb397, 0, none⟩ (.string ((rd_T92 l0 x15_2).f0))).setCell ⟨gb397, 1, none⟩ (.int .i64 ((rd_T92 l0 x15_2).f1))).setCell ⟨gb397, 2, none⟩ (.int .i64 ((rd_T92 l0 x15_2).f2))).setCell ⟨gb397, 3, none⟩ (.bool ((rd_T92 l0 x15_2).f3))) = w16 at n0_ n1_ ⊢
           have BK397 := n0_
           have HB := n1_
           clear n0_ n1_
           have n0_ := Aside0.mk (blk_drew BK397.out)
           have n1_ := Aside0.mk (below_drew1 HB.out)
           clear BK397
           clear HB
           have BK397 := n0_
           have HB := n1_
           clear n0_ n1_
           have q18 : (x15_2 : Int) ≤ ((l0.length : Int) : Int) := odt
           obtain ⟨i018, hi018, _, hsz18, _⟩ := info_parts info92
           have hroom18 : l0.length ≤ c0 := HC0.out
           have hC18 : Kd.C k92 _ (some ad396) l0.length l0 := HR0.out
           have hcut18 := cut_to (P := Try.prog) 30 92 .i64 Try.underlying30 hi018 (some ad396) l0.length c0 x15_2 (odt) q18 hroom18
           have hr18 := Kd.C_take (m := (x15_2 : Int).toNat) hC18 (by omega)
           have hy18 : y398.length = (x15_2 : Int).toNat := (by rw [Ny398.out, List.length_take]; omega)
           rw [← Ny398.out] at hr18
           rw [← hy18] at hcut18
           have HR401 := Aside0.mk hr18
           have HC401 := Aside0.mk (show y398.length ≤ c0 from by omega)
           clear hr18 hC18 hroom18 hi018 hsz18
           have KY18 := Aside0.mk hy18
           clear hy18
           replace q18 := eq_true q18
           refine start_ (n := 7) (S := fun w' => w'.cell? ⟨gb397, 0, none⟩ = some (.string ((rd_T92 l0 x15_2).f0)) ∧ w'.cell? ⟨gb397, 1, none⟩ = some (.int .i64 ((rd_T92 l0 x15_2).f1)) ∧ w'.cell? ⟨gb397, 2, none⟩ = some (.int .i64 ((rd_T92 l0 x15_2).f2)) ∧ w'.cell? ⟨gb397, 3, none⟩ = some (.bool ((rd_T92 l0 x15_2).f3))) (ds := []) #[false, false, false, false, false, false, false] (by kernel_rfl) rfl rfl ⟨(blk_cell BK397.out 0).trans rfl, (blk_cell BK397.out 1).trans rfl, (blk_cell BK397.out 2).trans rfl, (blk_cell BK397.out 3).trans rfl⟩ (fun hHeld => ?_)
           generalize w16.drew = w17 at BK397 HB HR401 hHeld ⊢
           refine pure_ (i := 0) (N := some 20) (v := ?_) (a' := ?_) #[true, false, false, false, false, false, false] rfl rfl (by kernel_rfl) (fun _ _ _ h => h) (Or.inl ⟨by rfl, ?_⟩) ?_ ?_
           rotate_left
           ·intro w'
            go_simp
            with_reducible rfl
           rotate_left
           ·simp only [Act.put, List.setIfInBounds_toArray, List.set_cons_zero, List.set_cons_succ, i64_w, i32_w]
            rfl
           refine pure_ (i := 1) (N := some 21) (v := ?_) (a' := ?_) #[true, true, false, false, false, false, false] rfl rfl (by kernel_rfl) (fun _ _ _ h => h) (Or.inl ⟨by rfl, ?_⟩) ?_ ?_
           rotate_left
           ·intro w'
            go_simp
            with_reducible rfl
           rotate_left
           ·simp only [Act.put, List.setIfInBounds_toArray, List.set_cons_zero, List.set_cons_succ, i64_w, i32_w]
            rfl
           refine pure_ (i := 2) (N := some 22) (v := ?_) (a' := ?_) #[true, true, true, false, false, false, false] rfl rfl (by kernel_rfl) (fun _ _ _ h => h) (Or.inl ⟨by rfl, ?_⟩) ?_ ?_
           rotate_left
           ·intro w'
            go_simp
            with_reducible rfl
           rotate_left
           ·simp only [Act.put, List.setIfInBounds_toArray, List.set_cons_zero, List.set_cons_succ, i64_w, i32_w]
            rfl
           refine pure_ (i := 3) (N := some 23) (v := ?_) (a' := ?_) #[true, true, true, true, false, false, false] rfl rfl (by kernel_rfl) (fun _ _ _ h => h) (Or.inl ⟨by rfl, ?_⟩) ?_ ?_
           rotate_left
           ·intro w'
            go_simp
            with_reducible rfl
           rotate_left
           ·simp only [Act.put, List.setIfInBounds_toArray, List.set_cons_zero, List.set_cons_succ, i64_w, i32_w]
            rfl
           refine take_ (i := 4) (N := some 24) (v := ?_) (a' := ?_) #[true, true, true, true, true, false, false] rfl rfl (by kernel_rfl) (fun _ _ _ h => h) (Or.inl ⟨by rfl, ?_⟩) hHeld ?_ ?_
           rotate_left
           ·rintro w' ⟨s0, s1, s2, s3⟩
            go_simp
            with_reducible rfl
           rotate_left
           ·simp only [Act.put, List.setIfInBounds_toArray, List.set_cons_zero, List.set_cons_succ, i64_w, i32_w]
            rfl
           refine one_ (i := 5) (N := some 25) #[true, true, true, true, true, true, false] rfl rfl (by kernel_rfl) (by decide) (fun K hK => ?_)
           refine goes_ Try.func111 (by kernel_rfl) rfl #[.slice (some ad396) y398.length c0, .string ((rd_T92 l0 x15_2).f0)] (by rfl) rfl rfl gA ?_
           with_reducible refine (impl_place.calls _ _ y398 ((rd_T92 l0 x15_2).f0) t402 _ ?side1 ?side2 A12.out).mono ?_
           (case side1 => exact cB HR401)
           (case side2 => exact HC401.out)
           rintro e w19 ⟨rfl, hb⟩
           refine ⟨_, rfl, ?_⟩
           have n0_ := Aside0.mk (kb BK397 hb)
           have n1_ := Aside0.mk (below_step (w := w) bW hb)
           clear BK397
           clear HB
           have BK397 := n0_
           have HB := n1_
           clear n0_ n1_
           (try clear hb)
           (try clear hb2)
           (try clear hk)
           (try clear hi)
           refine hK.out _ _ ⟨(blk_cell BK397.out 0).trans rfl, (blk_cell BK397.out 1).trans rfl, (blk_cell BK397.out 2).trans rfl, (blk_cell BK397.out 3).trans rfl⟩ (fun hHeld => ?_)
           clear hK K
           refine norm_ (a' := ?_) ?_ ?_
           rotate_left
           ·show Act.put _ (some 25) _ = _
            simp only [Act.put, List.setIfInBounds_toArray, List.set_cons_zero, List.set_cons_succ, i64_w, i32_w]
            rfl
           refine pure_ (i := 6) (N := some 26) (v := ?_) (a' := ?_) #[true, true, true, true, true, true, true] rfl rfl (by kernel_rfl) (fun _ _ _ h => h) (Or.inl ⟨by rfl, ?_⟩) ?_ ?_
           rotate_left
           ·intro w'
            go_simp
            with_reducible rfl
           rotate_left
           ·simp only [Act.put, List.setIfInBounds_toArray, List.set_cons_zero, List.set_cons_succ, i64_w, i32_w]
            rfl
           refine done_ (by kernel_rfl) ?_
           try go_wp2
           go_ret
           exact ⟨rE, bW⟩
          ·rw [if_neg c13] at H
           have c13b0 : decide (0 ≤ t402) = false := decide_eq_false c13
           clear c13
           have H' := Aside0.mk H
           clear H
           have p396 : 0 ≤ (x15_2 : Int) := odt
           have q396 : x15_2 < (l0.length : Int) := odt
           obtain ⟨ad396, e396, hx396_0, hx396_1, hx396_2, hx396_3⟩ := at_T92 HR0.out x15_2 p396 q396
           cases e396
           replace hx396_0 := (HB.out.cell (World.block_lt_of_cell? w _ hx396_0)).trans hx396_0
           replace hx396_1 := (HB.out.cell (World.block_lt_of_cell? w _ hx396_1)).trans hx396_1
           replace hx396_2 := (HB.out.cell (World.block_lt_of_cell? w _ hx396_2)).trans hx396_2
           replace hx396_3 := (HB.out.cell (World.block_lt_of_cell? w _ hx396_3)).trans hx396_3
           replace p396 := eq_true p396
           replace q396 := eq_true q396
           try go_wp2_with (first | ((with_reducible refine gate_dst (N := 4) rfl ?_); refine bE (N := 4) (cs := #[.string (⟨#[]⟩ : ByteArray), .int .i64 0, .int .i64 0, .bool false]) (t := 92) ?_; intro gb397 hg w20 hbox hb; have n0_ := Aside0.mk (below_step (w := w) bW hb); have n1_ := Aside0.mk (hbox); have n2_ := Aside0.mk (gS (w := w) hg); have n3_ := n2_; clear HB; have HB := n0_; have BK397 := n1_; have GW397 := n2_; have GE397 := n3_; clear n0_ n1_ n2_ n3_; clear hb hbox hg; obtain ⟨hcz21_0, hcz21_1, hcz21_2, hcz21_3⟩ := cz4 BK397; obtain ⟨hfz21_0, hfz21_1, hfz21_2, hfz21_3⟩ := fz4 BK397))
           have n0_ : Aside0 (((((w20.setCell ⟨gb397, 0, none⟩ (.string ((rd_T92 l0 x15_2).f0))).setCell ⟨gb397, 1, none⟩ (.int .i64 ((rd_T92 l0 x15_2).f1))).setCell ⟨gb397, 2, none⟩ (.int .i64 ((rd_T92 l0 x15_2).f2))).setCell ⟨gb397, 3, none⟩ (.bool ((rd_T92 l0 x15_2).f3))).heap[gb397]? = some (.cells #[.string ((rd_T92 l0 x15_2).f0), .int .i64 ((rd_T92 l0 x15_2).f1), .int .i64 ((rd_T92 l0 x15_2).f2), .bool ((rd_T92 l0 x15_2).f3)] 92 (0, 0))) := ⟨by (with_reducible repeat (first | refine blk_drewN ?_ _ | refine blk_drew ?_ | refine blk_alloc ?_ _)); refine blk_put (cs := #[.string ((rd_T92 l0 x15_2).f0), .int .i64 ((rd_T92 l0 x15_2).f1), .int .i64 ((rd_T92 l0 x15_2).f2), .bool false]) ?_ 3 _ rfl; (with_reducible repeat (first | refine blk_drewN ?_ _ | refine blk_drew ?_ | refine blk_alloc ?_ _)); refine blk_put (cs := #[.string ((rd_T92 l0 x15_2).f0), .int .i64 ((rd_T92 l0 x15_2).f1), .int .i64 0, .bool false]) ?_ 2 _ rfl; (with_reducible repeat (first | refine blk_drewN ?_ _ | refine blk_drew ?_ | refine blk_alloc ?_ _)); refine blk_put (cs := #[.string ((rd_T92 l0 x15_2).f0), .int .i64 0, .int .i64 0, .bool false]) ?_ 1 _ rfl; (with_reducible repeat (first | refine blk_drewN ?_ _ | refine blk_drew ?_ | refine blk_alloc ?_ _)); refine blk_put (cs := #[.string (⟨#[]⟩ : ByteArray), .int .i64 0, .int .i64 0, .bool false]) ?_ 0 _ rfl; (with_reducible repeat (first | refine blk_drewN ?_ _ | refine blk_drew ?_ | refine blk_alloc ?_ _)); exact BK397.out⟩
           have n1_ : Aside0 (Below w.heap.size w ((((w20.setCell ⟨gb397, 0, none⟩ (.string ((rd_T92 l0 x15_2).f0))).setCell ⟨gb397, 1, none⟩ (.int .i64 ((rd_T92 l0 x15_2).f1))).setCell ⟨gb397, 2, none⟩ (.int .i64 ((rd_T92 l0 x15_2).f2))).setCell ⟨gb397, 3, none⟩ (.bool ((rd_T92 l0 x15_2).f3)))) := ⟨bW⟩
           (try clear BK397)
           (try clear HB)
           generalize ((((w20.setCell ⟨gb397, 0, none⟩ (.string ((rd_T92 l0 x15_2).f0))).setCell ⟨gb397, 1, none⟩ (.int .i64 ((rd_T92 l0 x15_2).f1))).setCell ⟨gb397, 2, none⟩ (.int .i64 ((rd_T92 l0 x15_2).f2))).setCell ⟨gb397, 3, none⟩ (.bool ((rd_T92 l0 x15_2).f3))) = w22 at n0_ n1_ ⊢
           have BK397 := n0_
           have HB := n1_
           clear n0_ n1_
           have n0_ := Aside0.mk (blk_drew BK397.out)
           have n1_ := Aside0.mk (below_drew1 HB.out)
           clear BK397
           clear HB
           have BK397 := n0_
           have HB := n1_
           clear n0_ n1_
           have q24 : (x15_2 : Int) ≤ ((l0.length : Int) : Int) := odt
           obtain ⟨i024, hi024, _, hsz24, _⟩ := info_parts info92
           have hroom24 : l0.length ≤ c0 := HC0.out
           have hC24 : Kd.C k92 _ (some ad396) l0.length l0 := HR0.out
           have hcut24 := cut_to (P := Try.prog) 30 92 .i64 Try.underlying30 hi024 (some ad396) l0.length c0 x15_2 (odt) q24 hroom24
           have hr24 := Kd.C_take (m := (x15_2 : Int).toNat) hC24 (by omega)
           have hy24 : y398.length = (x15_2 : Int).toNat := (by rw [Ny398.out, List.length_take]; omega)
           rw [← Ny398.out] at hr24
           rw [← hy24] at hcut24
           have HR401 := Aside0.mk hr24
           have HC401 := Aside0.mk (show y398.length ≤ c0 from by omega)
           clear hr24 hC24 hroom24 hi024 hsz24
           have KY24 := Aside0.mk hy24
           clear hy24
           replace q24 := eq_true q24
           refine start_ (n := 7) (S := fun w' => w'.cell? ⟨gb397, 0, none⟩ = some (.string ((rd_T92 l0 x15_2).f0)) ∧ w'.cell? ⟨gb397, 1, none⟩ = some (.int .i64 ((rd_T92 l0 x15_2).f1)) ∧ w'.cell? ⟨gb397, 2, none⟩ = some (.int .i64 ((rd_T92 l0 x15_2).f2)) ∧ w'.cell? ⟨gb397, 3, none⟩ = some (.bool ((rd_T92 l0 x15_2).f3))) (ds := []) #[false, false, false, false, false, false, false] (by kernel_rfl) rfl rfl ⟨(blk_cell BK397.out 0).trans rfl, (blk_cell BK397.out 1).trans rfl, (blk_cell BK397.out 2).trans rfl, (blk_cell BK397.out 3).trans rfl⟩ (fun hHeld => ?_)
           generalize w22.drew = w23 at BK397 HB HR401 hHeld ⊢
           refine pure_ (i := 0) (N := some 20) (v := ?_) (a' := ?_) #[true, false, false, false, false, false, false] rfl rfl (by kernel_rfl) (fun _ _ _ h => h) (Or.inl ⟨by rfl, ?_⟩) ?_ ?_
           rotate_left
           ·intro w'
            go_simp
            with_reducible rfl
           rotate_left
           ·simp only [Act.put, List.setIfInBounds_toArray, List.set_cons_zero, List.set_cons_succ, i64_w, i32_w]
            rfl
           refine pure_ (i := 1) (N := some 21) (v := ?_) (a' := ?_) #[true, true, false, false, false, false, false] rfl rfl (by kernel_rfl) (fun _ _ _ h => h) (Or.inl ⟨by rfl, ?_⟩) ?_ ?_
           rotate_left
           ·intro w'
            go_simp
            with_reducible rfl
           rotate_left
           ·simp only [Act.put, List.setIfInBounds_toArray, List.set_cons_zero, List.set_cons_succ, i64_w, i32_w]
            rfl
           refine pure_ (i := 2) (N := some 22) (v := ?_) (a' := ?_) #[true, true, true, false, false, false, false] rfl rfl (by kernel_rfl) (fun _ _ _ h => h) (Or.inl ⟨by rfl, ?_⟩) ?_ ?_
           rotate_left
           ·intro w'
            go_simp
            with_reducible rfl
           rotate_left
           ·simp only [Act.put, List.setIfInBounds_toArray, List.set_cons_zero, List.set_cons_succ, i64_w, i32_w]
            rfl
           refine pure_ (i := 3) (N := some 23) (v := ?_) (a' := ?_) #[true, true, true, true, false, false, false] rfl rfl (by kernel_rfl) (fun _ _ _ h => h) (Or.inl ⟨by rfl, ?_⟩) ?_ ?_
           rotate_left
           ·intro w'
            go_simp
            with_reducible rfl
           rotate_left
           ·simp only [Act.put, List.setIfInBounds_toArray, List.set_cons_zero, List.set_cons_succ, i64_w, i32_w]
            rfl
           refine take_ (i := 4) (N := some 24) (v := ?_) (a' := ?_) #[true, true, true, true, true, false, false] rfl rfl (by kernel_rfl) (fun _ _ _ h => h) (Or.inl ⟨by rfl, ?_⟩) hHeld ?_ ?_
           rotate_left
           ·rintro w' ⟨s0, s1, s2, s3⟩
            go_simp
            with_reducible rfl
           rotate_left
           ·simp only [Act.put, List.setIfInBounds_toArray, List.set_cons_zero, List.set_cons_succ, i64_w, i32_w]
            rfl
           refine one_ (i := 5) (N := some 25) #[true, true, true, true, true, true, false] rfl rfl (by kernel_rfl) (by decide) (fun K hK => ?_)
           refine goes_ Try.func111 (by kernel_rfl) rfl #[.slice (some ad396) y398.length c0, .string ((rd_T92 l0 x15_2).f0)] (by rfl) rfl rfl gA ?_
           with_reducible refine (impl_place.calls _ _ y398 ((rd_T92 l0 x15_2).f0) t402 _ ?side1 ?side2 A12.out).mono ?_
           (case side1 => exact cB HR401)
           (case side2 => exact HC401.out)
           rintro e w25 ⟨rfl, hb⟩
           refine ⟨_, rfl, ?_⟩
           have n0_ := Aside0.mk (kb BK397 hb)
           have n1_ := Aside0.mk (below_step (w := w) bW hb)
           clear BK397
           clear HB
           have BK397 := n0_
           have HB := n1_
           clear n0_ n1_
           (try clear hb)
           (try clear hb2)
           (try clear hk)
           (try clear hi)
           refine hK.out _ _ ⟨(blk_cell BK397.out 0).trans rfl, (blk_cell BK397.out 1).trans rfl, (blk_cell BK397.out 2).trans rfl, (blk_cell BK397.out 3).trans rfl⟩ (fun hHeld => ?_)
           clear hK K
           refine norm_ (a' := ?_) ?_ ?_
           rotate_left
           ·show Act.put _ (some 25) _ = _
            simp only [Act.put, List.setIfInBounds_toArray, List.set_cons_zero, List.set_cons_succ, i64_w, i32_w]
            rfl
           refine pure_ (i := 6) (N := some 26) (v := ?_) (a' := ?_) #[true, true, true, true, true, true, true] rfl rfl (by kernel_rfl) (fun _ _ _ h => h) (Or.inl ⟨by rfl, ?_⟩) ?_ ?_
           rotate_left
           ·intro w'
            go_simp
            with_reducible rfl
           rotate_left
           ·simp only [Act.put, List.setIfInBounds_toArray, List.set_cons_zero, List.set_cons_succ, i64_w, i32_w]
            rfl
           refine done_ (by kernel_rfl) ?_
           try go_wp2
           go_roundg k2
           case measure => have := HJ1.out; have := HK2.out; omega
           case rel => exact ⟨(wrap64 (x15_2 + 1)), vE, H', ⟨by have := HJ1.out; have := HK2.out; omega⟩, ⟨bW⟩⟩
         ·rw [if_neg c11] at H
          exact absurd H (by simp)
        ·rw [if_neg c9] at H
         exact absurd H (by simp)
       ·rw [if_neg c8] at H
        exact absurd H (by simp)
      ·rw [if_neg c7] at H
       have c7b0 : decide (x15_2 < (l0.length : Int)) = false := decide_eq_false c7
       clear c7
       obtain rfl := Option.some.inj H
       go_wp2
       go_ret
       exact ⟨rE, bW⟩
end Go.Proofs.Ytekoaaiemmblgaa.Q
end

section
namespace Go.Proofs.Ytekoaaiemmblgaa.Q
open Go.RowKit Go.Proofs.YtekoaaiemmblgaaW.PrintWords Go.Proofs.YtekoaaiemmblgaaW.PrintLast Go.Proofs.YtekoaaiemmblgaaW.PrintMore
attribute [local go_sem] max2_int min2_int max_two min_two max_three min_three max_four min_four   -- for this text's walks alone
set_option linter.unusedVariables false
set_option linter.unusedSimpArgs false
attribute [local go_sem] bin_leq bin_gtr bin_geq
def areAllRef_baseOK.f (l0 : List (S92)) (l1_0 : List (S78)) (l1_1 : List (S92)) : Option (Bool) := some (l0.all (fun x => decide (x.f1 ≤ (l1_0.length : Int))))
theorem baseOK_asks (A1 A2 : Option Addr) (c1 n c2 m : Nat) (B : Nat) (l : List S92) (w : World) (hB : B < w.heap.size) (hc : w.cell? ⟨B, 0, none⟩ = some (.slice A1 n c1)) :
    Asks_Ref 77 #[.pointer (some ⟨B, 0, none⟩)] (fun x => decide (x.f1 ≤ (n : Int))) w l := by
  intro W x hW hx
  have hc' : W.cell? ⟨B, 0, none⟩ = some (.slice A1 n c1) := (hW.cell (p := ⟨B, 0, none⟩) hB).trans hc
  have hB' : B < W.heap.size := Nat.lt_of_lt_of_le hB hW.size
  have HBX : Below W.heap.size W (W.alloc (.cells #[.string x.f0, .int .i64 x.f1, .int .i64 x.f2, .bool x.f3] 92)) := (Below.refl _ _).alloc (Nat.le_refl _) _
  have hcb : (W.alloc (.cells #[.string x.f0, .int .i64 x.f1, .int .i64 x.f2, .bool x.f3] 92)).cell? ⟨B, 0, none⟩ = some (.slice A1 n c1) := (HBX.cell (p := ⟨B, 0, none⟩) hB').trans hc'
  have HBA := Aside0.mk HBX
  clear hx hW hc HBX hB
  go_enter Try.func77, Try.ntmps77
  go_wp2
  repeat (go_quiet (fail); try go_wp2)
  go_ret
  exact ⟨rfl, by repeat (first | exact HBA.out | apply pw_below_drewN)⟩
theorem areAllRef_baseOK.calls (A0 : Option Addr) (c0 : Nat) (l0 : List (S92)) (A1_0 : Option Addr) (c1_0 : Nat) (l1_0 : List (S78)) (A1_1 : Option Addr) (c1_1 : Nat) (l1_1 : List (S92)) {B : Nat} (r : Bool) (w : World) (hr0 : Kd.C k92 w A0 l0.length l0) (hc0 : l0.length ≤ c0) (hr1_0 : Kd.C k78 w A1_0 l1_0.length l1_0) (hc1_0 : l1_0.length ≤ c1_0) (hr1_1 : Kd.C k92 w A1_1 l1_1.length l1_1) (hc1_1 : l1_1.length ≤ c1_1) (hk : w.heap[B]? = some (.cells #[.slice A1_0 l1_0.length c1_0, .slice A1_1 l1_1.length c1_1] 32 (0, 0))) (h : areAllRef_baseOK.f l0 l1_0 l1_1 = some r) :
    Calls Try.prog 76 #[.slice A0 l0.length c0, .func (.func 77) #[] #[.pointer (some ⟨B, 0, none⟩)]] w fun e w' => e = .returned (.bool r) ∧ Below w.heap.size w w' := by
  obtain rfl := Option.some.inj h
  exact allF_Ref 77 #[.pointer (some ⟨B, 0, none⟩)] (enters_ Try.func77 (by kernel_rfl) rfl) _ A0 c0 l0 w hr0 hc0 (baseOK_asks A1_0 A1_1 c1_0 l1_0.length c1_1 l1_1.length B l0 w (blk_lt hk) ((blk_cell hk 0).trans rfl))
end Go.Proofs.Ytekoaaiemmblgaa.Q
end

section
namespace Go.Proofs.Ytekoaaiemmblgaa.Q
open Go.RowKit Go.Proofs.YtekoaaiemmblgaaW.PrintWords Go.Proofs.YtekoaaiemmblgaaW.PrintLast Go.Proofs.YtekoaaiemmblgaaW.PrintMore
attribute [local go_sem] max2_int min2_int max_two min_two max_three min_three max_four min_four   -- for this text's walks alone
set_option linter.unusedVariables false
set_option linter.unusedSimpArgs false
attribute [local go_sem] bin_leq bin_gtr bin_geq
def impl_BaseOK.f (k : Nat) (l0_0 : List (S78)) (l0_1 : List (S92)) : Option (Bool) := (impl_StoreOK.f k l0_0).bind fun t404 => (if t404 = true then ((impl_RefsOK.f k l0_1).bind fun t405 => (if t405 = true then ((areAllRef_baseOK.f l0_1 l0_0 l0_1).bind fun t406 => (some t406)) else (some false))) else (some false))
set_option maxHeartbeats 8000000 in
set_option maxRecDepth 100000 in
theorem impl_BaseOK.calls (k : Nat) (A0_0 : Option Addr) (c0_0 : Nat) (l0_0 : List (S78)) (A0_1 : Option Addr) (c0_1 : Nat) (l0_1 : List (S92)) (r : Bool) (w : World) (hr0_0 : Kd.C k78 w A0_0 l0_0.length l0_0) (hc0_0 : l0_0.length ≤ c0_0) (hr0_1 : Kd.C k92 w A0_1 l0_1.length l0_1) (hc0_1 : l0_1.length ≤ c0_1) (h : impl_BaseOK.f k l0_0 l0_1 = some r) :
    Calls Try.prog 30 #[.agg #[.slice A0_0 l0_0.length c0_0, .slice A0_1 l0_1.length c0_1]] w fun e w' => e = .returned (.bool r) ∧ Below w.heap.size w w' := by
  have hu32 := Try.underlying32
  have HR0_0 := Aside0.mk hr0_0
  have HC0_0 := Aside0.mk hc0_0
  clear hr0_0 hc0_0
  have HR0_1 := Aside0.mk hr0_1
  have HC0_1 := Aside0.mk hc0_1
  clear hr0_1 hc0_1
  have HB := Aside0.mk (Below.refl w.heap.size w)
  have H : ((impl_StoreOK.f k l0_0).bind fun t404 => (if t404 = true then ((impl_RefsOK.f k l0_1).bind fun t405 => (if t405 = true then ((areAllRef_baseOK.f l0_1 l0_0 l0_1).bind fun t406 => (some t406)) else (some false))) else (some false))) = some r := h
  clear h
  replace H := Option.bind_eq_some_iff.mp H
  obtain ⟨t404, A20, H⟩ := H
  replace H : (if t404 = true then ((impl_RefsOK.f k l0_1).bind fun t405 => (if t405 = true then ((areAllRef_baseOK.f l0_1 l0_0 l0_1).bind fun t406 => (some t406)) else (some false))) else (some false)) = some r := H
  have A2 := Aside0.mk A20
  clear A20
  by_cases c3 : t404 = true
  · subst c3
    have H1 : ((impl_RefsOK.f k l0_1).bind fun t405 => (if t405 = true then ((areAllRef_baseOK.f l0_1 l0_0 l0_1).bind fun t406 => (some t406)) else (some false))) = some r := by rw [if_pos rfl] at H; exact H
    clear H
    have H := H1
    clear H1
    replace H := Option.bind_eq_some_iff.mp H
    obtain ⟨t405, A40, H⟩ := H
    replace H : (if t405 = true then ((areAllRef_baseOK.f l0_1 l0_0 l0_1).bind fun t406 => (some t406)) else (some false)) = some r := H
    have A4 := Aside0.mk A40
    clear A40
    by_cases c5 : t405 = true
    · subst c5
      have H1 : ((areAllRef_baseOK.f l0_1 l0_0 l0_1).bind fun t406 => (some t406)) = some r := by rw [if_pos rfl] at H; exact H
      clear H
      have H := H1
      clear H1
      replace H := Option.bind_eq_some_iff.mp H
      obtain ⟨t406, A60, H⟩ := H
      replace H : (some t406) = some r := H
      have A6 := Aside0.mk A60
      clear A60
      obtain rfl := Option.some.inj H
      go_enter Try.func30, Try.ntmps30
      go_wp2_with (first | ((with_reducible refine gate_dst (N := 1) rfl ?_); refine bE (N := 1) (cs := #[.slice A0_0 l0_0.length c0_0, .slice A0_1 l0_1.length c0_1]) (t := 32) ?_; intro gb403 hg w7 hbox hb; have n0_ := Aside0.mk (below_step (w := w) bW hb); have n1_ := Aside0.mk (hbox); have n2_ := Aside0.mk (gS (w := w) hg); have n3_ := n2_; clear HB; have HB := n0_; have BK403 := n1_; have GW403 := n2_; have GE403 := n3_; clear n0_ n1_ n2_ n3_; clear hb hbox hg; obtain ⟨hcz8_0, hcz8_1⟩ := cz2 BK403; obtain ⟨hfz8_0, hfz8_1⟩ := fz2 BK403) | ((with_reducible refine gate_callee (f := 56) rfl ?_); refine goesL_ (some 5) rfl rfl Try.func56 (by kernel_rfl) rfl #[.slice A0_0 l0_0.length c0_0] rfl gA ?_; (with_reducible refine (impl_StoreOK.calls k _ _ l0_0 true _ ?side1 ?side2 A2.out).mono ?_); (case side1 => exact cB HR0_0); (case side2 => exact HC0_0.out); rintro e w9 ⟨rfl, hb⟩; refine ⟨_, rfl, ?_⟩; have n0_ := Aside0.mk (kb BK403 hb); have n1_ := Aside0.mk (below_step (w := w) bW hb); clear BK403; clear HB; have BK403 := n0_; have HB := n1_; clear n0_ n1_; (try clear hb); (try clear hb2); (try clear hk); (try clear hi); obtain ⟨hcz10_0, hcz10_1⟩ := cz2 BK403; obtain ⟨hfz10_0, hfz10_1⟩ := fz2 BK403) | (go_at_call 75; (with_reducible refine (impl_RefsOK.calls k _ _ l0_1 true _ ?side1 ?side2 A4.out).mono ?_); (case side1 => exact cB HR0_1); (case side2 => exact HC0_1.out); rintro e w11 ⟨rfl, hb⟩; have n0_ := Aside0.mk (kb BK403 hb); have n1_ := Aside0.mk (below_step (w := w) bW hb); clear BK403; clear HB; have BK403 := n0_; have HB := n1_; clear n0_ n1_; (try clear hb); (try clear hb2); (try clear hk); (try clear hi); obtain ⟨hcz12_0, hcz12_1⟩ := cz2 BK403; obtain ⟨hfz12_0, hfz12_1⟩ := fz2 BK403) | (go_at_call 76; (with_reducible refine (areAllRef_baseOK.calls _ _ l0_1 A0_0 c0_0 l0_0 A0_1 c0_1 l0_1 t406 _ ?side1 ?side2 ?side3 ?side4 ?side5 ?side6 ?side7 A6.out).mono ?_); (case side1 => exact cB HR0_1); (case side2 => exact HC0_1.out); (case side3 => exact cB HR0_0); (case side4 => exact HC0_0.out); (case side5 => exact cB HR0_1); (case side6 => exact HC0_1.out); (case side7 => exact (kB BK403)); rintro e w13 ⟨rfl, hb⟩; have n0_ := Aside0.mk (kb BK403 hb); have n1_ := Aside0.mk (below_step (w := w) bW hb); clear BK403; clear HB; have BK403 := n0_; have HB := n1_; clear n0_ n1_; (try clear hb); (try clear hb2); (try clear hk); (try clear hi)))
      go_ret
      exact ⟨rE, bW⟩
    · replace c5 := Bool.eq_false_iff.mpr c5
      subst c5
      have H1 : (some false) = some r := by rw [if_neg (show ¬ (false = true) by decide)] at H; exact H
      clear H
      have H := H1
      clear H1
      obtain rfl := Option.some.inj H
      go_enter Try.func30, Try.ntmps30
      go_wp2_with (first | ((with_reducible refine gate_dst (N := 1) rfl ?_); refine bE (N := 1) (cs := #[.slice A0_0 l0_0.length c0_0, .slice A0_1 l0_1.length c0_1]) (t := 32) ?_; intro gb403 hg w14 hbox hb; have n0_ := Aside0.mk (below_step (w := w) bW hb); have n1_ := Aside0.mk (hbox); have n2_ := Aside0.mk (gS (w := w) hg); have n3_ := n2_; clear HB; have HB := n0_; have BK403 := n1_; have GW403 := n2_; have GE403 := n3_; clear n0_ n1_ n2_ n3_; clear hb hbox hg; obtain ⟨hcz15_0, hcz15_1⟩ := cz2 BK403; obtain ⟨hfz15_0, hfz15_1⟩ := fz2 BK403) | ((with_reducible refine gate_callee (f := 56) rfl ?_); refine goesL_ (some 5) rfl rfl Try.func56 (by kernel_rfl) rfl #[.slice A0_0 l0_0.length c0_0] rfl gA ?_; (with_reducible refine (impl_StoreOK.calls k _ _ l0_0 true _ ?side1 ?side2 A2.out).mono ?_); (case side1 => exact cB HR0_0); (case side2 => exact HC0_0.out); rintro e w16 ⟨rfl, hb⟩; refine ⟨_, rfl, ?_⟩; have n0_ := Aside0.mk (kb BK403 hb); have n1_ := Aside0.mk (below_step (w := w) bW hb); clear BK403; clear HB; have BK403 := n0_; have HB := n1_; clear n0_ n1_; (try clear hb); (try clear hb2); (try clear hk); (try clear hi); obtain ⟨hcz17_0, hcz17_1⟩ := cz2 BK403; obtain ⟨hfz17_0, hfz17_1⟩ := fz2 BK403) | (go_at_call 75; (with_reducible refine (impl_RefsOK.calls k _ _ l0_1 false _ ?side1 ?side2 A4.out).mono ?_); (case side1 => exact cB HR0_1); (case side2 => exact HC0_1.out); rintro e w18 ⟨rfl, hb⟩; have n0_ := Aside0.mk (kb BK403 hb); have n1_ := Aside0.mk (below_step (w := w) bW hb); clear BK403; clear HB; have BK403 := n0_; have HB := n1_; clear n0_ n1_; (try clear hb); (try clear hb2); (try clear hk); (try clear hi)))
      go_ret
      exact ⟨rE, bW⟩
  · replace c3 := Bool.eq_false_iff.mpr c3
    subst c3
    have H1 : (some false) = some r := by rw [if_neg (show ¬ (false = true) by decide)] at H; exact H
    clear H
    have H := H1
    clear H1
    obtain rfl := Option.some.inj H
    go_enter Try.func30, Try.ntmps30
    go_wp2_with (first | ((with_reducible refine gate_dst (N := 1) rfl ?_); refine bE (N := 1) (cs := #[.slice A0_0 l0_0.length c0_0, .slice A0_1 l0_1.length c0_1]) (t := 32) ?_; intro gb403 hg w19 hbox hb; have n0_ := Aside0.mk (below_step (w := w) bW hb); have n1_ := Aside0.mk (hbox); have n2_ := Aside0.mk (gS (w := w) hg); have n3_ := n2_; clear HB; have HB := n0_; have BK403 := n1_; have GW403 := n2_; have GE403 := n3_; clear n0_ n1_ n2_ n3_; clear hb hbox hg; obtain ⟨hcz20_0, hcz20_1⟩ := cz2 BK403; obtain ⟨hfz20_0, hfz20_1⟩ := fz2 BK403) | ((with_reducible refine gate_callee (f := 56) rfl ?_); refine goesL_ (some 5) rfl rfl Try.func56 (by kernel_rfl) rfl #[.slice A0_0 l0_0.length c0_0] rfl gA ?_; (with_reducible refine (impl_StoreOK.calls k _ _ l0_0 false _ ?side1 ?side2 A2.out).mono ?_); (case side1 => exact cB HR0_0); (case side2 => exact HC0_0.out); rintro e w21 ⟨rfl, hb⟩; refine ⟨_, rfl, ?_⟩; have n0_ := Aside0.mk (kb BK403 hb); have n1_ := Aside0.mk (below_step (w := w) bW hb); clear BK403; clear HB; have BK403 := n0_; have HB := n1_; clear n0_ n1_; (try clear hb); (try clear hb2); (try clear hk); (try clear hi)))
    go_ret
    exact ⟨rE, bW⟩
end Go.Proofs.Ytekoaaiemmblgaa.Q
end

section
namespace Go.Proofs.Ytekoaaiemmblgaa.Q
open Go.RowKit Go.Proofs.YtekoaaiemmblgaaW.PrintWords Go.Proofs.YtekoaaiemmblgaaW.PrintLast Go.Proofs.YtekoaaiemmblgaaW.PrintMore
attribute [local go_sem] max2_int min2_int max_two min_two max_three min_three max_four min_four   -- for this text's walks alone
set_option linter.unusedVariables false
set_option linter.unusedSimpArgs false
attribute [local go_sem] bin_leq bin_gtr bin_geq
def impl_SnapOK.f (k : Nat) (l0_0 : List (S78)) (l0_1 : List (S92)) (a1_0 : ByteArray) (a1_1 : Int) : Option (Bool) := (impl_BaseOK.f k l0_0 l0_1).bind fun t445 => (if t445 = true then ((impl_NameOK.f a1_0).bind fun t446 => (if t446 = true then ((impl_within.f a1_1 1 (l0_0.length : Int)).bind fun t447 => (some t447)) else (some false))) else (some false))
set_option maxHeartbeats 8000000 in
set_option maxRecDepth 100000 in
theorem impl_SnapOK.calls (k : Nat) (A0_0 : Option Addr) (c0_0 : Nat) (l0_0 : List (S78)) (A0_1 : Option Addr) (c0_1 : Nat) (l0_1 : List (S92)) (a1_0 : ByteArray) (a1_1 : Int) (r : Bool) (w : World) (hr0_0 : Kd.C k78 w A0_0 l0_0.length l0_0) (hc0_0 : l0_0.length ≤ c0_0) (hr0_1 : Kd.C k92 w A0_1 l0_1.length l0_1) (hc0_1 : l0_1.length ≤ c0_1) (h : impl_SnapOK.f k l0_0 l0_1 a1_0 a1_1 = some r) :
    Calls Try.prog 34 #[.agg #[.slice A0_0 l0_0.length c0_0, .slice A0_1 l0_1.length c0_1], .agg #[.string a1_0, .int .i64 a1_1]] w fun e w' => e = .returned (.bool r) ∧ Below w.heap.size w w' := by
  have hu32 := Try.underlying32
  have hu53 := Try.underlying53
  have HR0_0 := Aside0.mk hr0_0
  have HC0_0 := Aside0.mk hc0_0
  clear hr0_0 hc0_0
  have HR0_1 := Aside0.mk hr0_1
  have HC0_1 := Aside0.mk hc0_1
  clear hr0_1 hc0_1
  have HB := Aside0.mk (Below.refl w.heap.size w)
  have H : ((impl_BaseOK.f k l0_0 l0_1).bind fun t445 => (if t445 = true then ((impl_NameOK.f a1_0).bind fun t446 => (if t446 = true then ((impl_within.f a1_1 1 (l0_0.length : Int)).bind fun t447 => (some t447)) else (some false))) else (some false))) = some r := h
  clear h
  replace H := Option.bind_eq_some_iff.mp H
  obtain ⟨t445, A30, H⟩ := H
  replace H : (if t445 = true then ((impl_NameOK.f a1_0).bind fun t446 => (if t446 = true then ((impl_within.f a1_1 1 (l0_0.length : Int)).bind fun t447 => (some t447)) else (some false))) else (some false)) = some r := H
  have A3 := Aside0.mk A30
  clear A30
  by_cases c4 : t445 = true
  · subst c4
    have H1 : ((impl_NameOK.f a1_0).bind fun t446 => (if t446 = true then ((impl_within.f a1_1 1 (l0_0.length : Int)).bind fun t447 => (some t447)) else (some false))) = some r := by rw [if_pos rfl] at H; exact H
    clear H
    have H := H1
    clear H1
    replace H := Option.bind_eq_some_iff.mp H
    obtain ⟨t446, A50, H⟩ := H
    replace H : (if t446 = true then ((impl_within.f a1_1 1 (l0_0.length : Int)).bind fun t447 => (some t447)) else (some false)) = some r := H
    have A5 := Aside0.mk A50
    clear A50
    by_cases c6 : t446 = true
    · subst c6
      have H1 : ((impl_within.f a1_1 1 (l0_0.length : Int)).bind fun t447 => (some t447)) = some r := by rw [if_pos rfl] at H; exact H
      clear H
      have H := H1
      clear H1
      replace H := Option.bind_eq_some_iff.mp H
      obtain ⟨t447, A70, H⟩ := H
      replace H : (some t447) = some r := H
      have A7 := Aside0.mk A70
      clear A70
      obtain rfl := Option.some.inj H
      go_enter Try.func34, Try.ntmps34
      go_wp2_with (first | ((with_reducible refine gate_dst (N := 2) rfl ?_); (try (refine gate_guard (by rfl) ?_; dsimp only)); refine bE (N := 2) (cs := #[.slice A0_0 l0_0.length c0_0, .slice A0_1 l0_1.length c0_1]) (t := 32) ?_; intro gb443 hg w8 hbox hb; have n0_ := Aside0.mk (below_step (w := w) bW hb); have n1_ := Aside0.mk (hbox); have n2_ := Aside0.mk (gS (w := w) hg); have n3_ := n2_; clear HB; have HB := n0_; have BK443 := n1_; have GW443 := n2_; have GE443 := n3_; clear n0_ n1_ n2_ n3_; clear hb hbox hg) | ((with_reducible refine gate_dst (N := 3) rfl ?_); (try (refine gate_guard (by rfl) ?_; dsimp only)); refine bE (N := 3) (cs := #[.string a1_0, .int .i64 a1_1]) (t := 53) ?_; intro gb444 hg w9 hbox hb; have n0_ := Aside0.mk (kb BK443 hb); have n1_ := Aside0.mk (below_step (w := w) bW hb); have n2_ := Aside0.mk (hbox); have n3_ := Aside0.mk (gS (w := w) hg); have n4_ := n3_; have n5_ := Aside0.mk (nL BK443 hg); have n6_ := Aside0.mk (nG BK443 hg); clear BK443; clear HB; have BK443 := n0_; have HB := n1_; have BK444 := n2_; have GW444 := n3_; have GE444 := n4_; have NB443_444 := n5_; have NB444_443 := n6_; clear n0_ n1_ n2_ n3_ n4_ n5_ n6_; clear hb hbox hg; have hnb10 := NB443_444.out; have hnc10 := NB444_443.out; obtain ⟨hcz11_0, hcz11_1⟩ := cz2 BK443; obtain ⟨hfz11_0, hfz11_1⟩ := fz2 BK443) | ((with_reducible refine gate_callee (f := 30) rfl ?_); refine goesL_ (some 6) rfl rfl Try.func30 (by kernel_rfl) rfl #[.agg #[.slice A0_0 l0_0.length c0_0, .slice A0_1 l0_1.length c0_1]] rfl gA ?_; (with_reducible refine (impl_BaseOK.calls k _ _ l0_0 _ _ l0_1 true _ ?side1 ?side2 ?side3 ?side4 A3.out).mono ?_); (case side1 => exact cB HR0_0); (case side2 => exact HC0_0.out); (case side3 => exact cB HR0_1); (case side4 => exact HC0_1.out); rintro e w12 ⟨rfl, hb⟩; refine ⟨_, rfl, ?_⟩; have n0_ := Aside0.mk (kb BK443 hb); have n1_ := Aside0.mk (kb BK444 hb); have n2_ := Aside0.mk (below_step (w := w) bW hb); clear BK443; clear BK444; clear HB; have BK443 := n0_; have BK444 := n1_; have HB := n2_; clear n0_ n1_ n2_; (try clear hb); (try clear hb2); (try clear hk); (try clear hi); obtain ⟨hcz13_0, hcz13_1⟩ := cz2 BK444; obtain ⟨hfz13_0, hfz13_1⟩ := fz2 BK444) | (go_at_call 79; (with_reducible refine (impl_NameOK.calls a1_0 true _ A5.out).mono ?_); rintro e w14 ⟨rfl, hb⟩; have n0_ := Aside0.mk (kb BK443 hb); have n1_ := Aside0.mk (kb BK444 hb); have n2_ := Aside0.mk (below_step (w := w) bW hb); clear BK443; clear BK444; clear HB; have BK443 := n0_; have BK444 := n1_; have HB := n2_; clear n0_ n1_ n2_; (try clear hb); (try clear hb2); (try clear hk); (try clear hi); obtain ⟨hcz15_0, hcz15_1⟩ := cz2 BK444; obtain ⟨hfz15_0, hfz15_1⟩ := fz2 BK444; obtain ⟨hcz16_0, hcz16_1⟩ := cz2 BK443; obtain ⟨hfz16_0, hfz16_1⟩ := fz2 BK443) | (go_at_call 80; (with_reducible refine (impl_within.calls a1_1 1 (l0_0.length : Int) t447 _ A7.out).mono ?_); rintro e w' ⟨rfl, ⟨nd, rfl⟩⟩))
      go_ret
      exact ⟨rE, bW⟩
    · replace c6 := Bool.eq_false_iff.mpr c6
      subst c6
      have H1 : (some false) = some r := by rw [if_neg (show ¬ (false = true) by decide)] at H; exact H
      clear H
      have H := H1
      clear H1
      obtain rfl := Option.some.inj H
      go_enter Try.func34, Try.ntmps34
      go_wp2_with (first | ((with_reducible refine gate_dst (N := 2) rfl ?_); (try (refine gate_guard (by rfl) ?_; dsimp only)); refine bE (N := 2) (cs := #[.slice A0_0 l0_0.length c0_0, .slice A0_1 l0_1.length c0_1]) (t := 32) ?_; intro gb443 hg w17 hbox hb; have n0_ := Aside0.mk (below_step (w := w) bW hb); have n1_ := Aside0.mk (hbox); have n2_ := Aside0.mk (gS (w := w) hg); have n3_ := n2_; clear HB; have HB := n0_; have BK443 := n1_; have GW443 := n2_; have GE443 := n3_; clear n0_ n1_ n2_ n3_; clear hb hbox hg) | ((with_reducible refine gate_dst (N := 3) rfl ?_); (try (refine gate_guard (by rfl) ?_; dsimp only)); refine bE (N := 3) (cs := #[.string a1_0, .int .i64 a1_1]) (t := 53) ?_; intro gb444 hg w18 hbox hb; have n0_ := Aside0.mk (kb BK443 hb); have n1_ := Aside0.mk (below_step (w := w) bW hb); have n2_ := Aside0.mk (hbox); have n3_ := Aside0.mk (gS (w := w) hg); have n4_ := n3_; have n5_ := Aside0.mk (nL BK443 hg); have n6_ := Aside0.mk (nG BK443 hg); clear BK443; clear HB; have BK443 := n0_; have HB := n1_; have BK444 := n2_; have GW444 := n3_; have GE444 := n4_; have NB443_444 := n5_; have NB444_443 := n6_; clear n0_ n1_ n2_ n3_ n4_ n5_ n6_; clear hb hbox hg; have hnb19 := NB443_444.out; have hnc19 := NB444_443.out; obtain ⟨hcz20_0, hcz20_1⟩ := cz2 BK443; obtain ⟨hfz20_0, hfz20_1⟩ := fz2 BK443) | ((with_reducible refine gate_callee (f := 30) rfl ?_); refine goesL_ (some 6) rfl rfl Try.func30 (by kernel_rfl) rfl #[.agg #[.slice A0_0 l0_0.length c0_0, .slice A0_1 l0_1.length c0_1]] rfl gA ?_; (with_reducible refine (impl_BaseOK.calls k _ _ l0_0 _ _ l0_1 true _ ?side1 ?side2 ?side3 ?side4 A3.out).mono ?_); (case side1 => exact cB HR0_0); (case side2 => exact HC0_0.out); (case side3 => exact cB HR0_1); (case side4 => exact HC0_1.out); rintro e w21 ⟨rfl, hb⟩; refine ⟨_, rfl, ?_⟩; have n0_ := Aside0.mk (kb BK443 hb); have n1_ := Aside0.mk (kb BK444 hb); have n2_ := Aside0.mk (below_step (w := w) bW hb); clear BK443; clear BK444; clear HB; have BK443 := n0_; have BK444 := n1_; have HB := n2_; clear n0_ n1_ n2_; (try clear hb); (try clear hb2); (try clear hk); (try clear hi); obtain ⟨hcz22_0, hcz22_1⟩ := cz2 BK444; obtain ⟨hfz22_0, hfz22_1⟩ := fz2 BK444) | (go_at_call 79; (with_reducible refine (impl_NameOK.calls a1_0 false _ A5.out).mono ?_); rintro e w23 ⟨rfl, hb⟩; have n0_ := Aside0.mk (kb BK443 hb); have n1_ := Aside0.mk (kb BK444 hb); have n2_ := Aside0.mk (below_step (w := w) bW hb); clear BK443; clear BK444; clear HB; have BK443 := n0_; have BK444 := n1_; have HB := n2_; clear n0_ n1_ n2_; (try clear hb); (try clear hb2); (try clear hk); (try clear hi)))
      go_ret
      exact ⟨rE, bW⟩
  · replace c4 := Bool.eq_false_iff.mpr c4
    subst c4
    have H1 : (some false) = some r := by rw [if_neg (show ¬ (false = true) by decide)] at H; exact H
    clear H
    have H := H1
    clear H1
    obtain rfl := Option.some.inj H
    go_enter Try.func34, Try.ntmps34
    go_wp2_with (first | ((with_reducible refine gate_dst (N := 2) rfl ?_); (try (refine gate_guard (by rfl) ?_; dsimp only)); refine bE (N := 2) (cs := #[.slice A0_0 l0_0.length c0_0, .slice A0_1 l0_1.length c0_1]) (t := 32) ?_; intro gb443 hg w24 hbox hb; have n0_ := Aside0.mk (below_step (w := w) bW hb); have n1_ := Aside0.mk (hbox); have n2_ := Aside0.mk (gS (w := w) hg); have n3_ := n2_; clear HB; have HB := n0_; have BK443 := n1_; have GW443 := n2_; have GE443 := n3_; clear n0_ n1_ n2_ n3_; clear hb hbox hg) | ((with_reducible refine gate_dst (N := 3) rfl ?_); (try (refine gate_guard (by rfl) ?_; dsimp only)); refine bE (N := 3) (cs := #[.string a1_0, .int .i64 a1_1]) (t := 53) ?_; intro gb444 hg w25 hbox hb; have n0_ := Aside0.mk (kb BK443 hb); have n1_ := Aside0.mk (below_step (w := w) bW hb); have n2_ := Aside0.mk (hbox); have n3_ := Aside0.mk (gS (w := w) hg); have n4_ := n3_; have n5_ := Aside0.mk (nL BK443 hg); have n6_ := Aside0.mk (nG BK443 hg); clear BK443; clear HB; have BK443 := n0_; have HB := n1_; have BK444 := n2_; have GW444 := n3_; have GE444 := n4_; have NB443_444 := n5_; have NB444_443 := n6_; clear n0_ n1_ n2_ n3_ n4_ n5_ n6_; clear hb hbox hg; have hnb26 := NB443_444.out; have hnc26 := NB444_443.out; obtain ⟨hcz27_0, hcz27_1⟩ := cz2 BK443; obtain ⟨hfz27_0, hfz27_1⟩ := fz2 BK443) | ((with_reducible refine gate_callee (f := 30) rfl ?_); refine goesL_ (some 6) rfl rfl Try.func30 (by kernel_rfl) rfl #[.agg #[.slice A0_0 l0_0.length c0_0, .slice A0_1 l0_1.length c0_1]] rfl gA ?_; (with_reducible refine (impl_BaseOK.calls k _ _ l0_0 _ _ l0_1 false _ ?side1 ?side2 ?side3 ?side4 A3.out).mono ?_); (case side1 => exact cB HR0_0); (case side2 => exact HC0_0.out); (case side3 => exact cB HR0_1); (case side4 => exact HC0_1.out); rintro e w28 ⟨rfl, hb⟩; refine ⟨_, rfl, ?_⟩; have n0_ := Aside0.mk (kb BK443 hb); have n1_ := Aside0.mk (kb BK444 hb); have n2_ := Aside0.mk (below_step (w := w) bW hb); clear BK443; clear BK444; clear HB; have BK443 := n0_; have BK444 := n1_; have HB := n2_; clear n0_ n1_ n2_; (try clear hb); (try clear hb2); (try clear hk); (try clear hi)))
    go_ret
    exact ⟨rE, bW⟩
end Go.Proofs.Ytekoaaiemmblgaa.Q
end

section
namespace Go.Proofs.Ytekoaaiemmblgaa.Q
open Go.RowKit Go.Proofs.YtekoaaiemmblgaaW.PrintWords Go.Proofs.YtekoaaiemmblgaaW.PrintLast Go.Proofs.YtekoaaiemmblgaaW.PrintMore
attribute [local go_sem] max2_int min2_int max_two min_two max_three min_three max_four min_four   -- for this text's walks alone
set_option linter.unusedVariables false
set_option linter.unusedSimpArgs false
attribute [local go_sem] bin_leq bin_gtr bin_geq
def laws_FnExactSnapOK.f (k : Nat) (l0_0 : List (S75)) (l0_1 : List (S118)) (a1_0 : ByteArray) (a1_1 : Int) : Option (Bool) := (laws_szBase.f k l0_0 l0_1 1048576).bind fun t450 => (if t450 < 0 then (some true) else ((laws_szSnap.f a1_0 a1_1 t450).bind fun t451 => (if t451 < 0 then (some true) else ((laws_toBase.f k l0_0 l0_1).bind fun bt452 => ((laws_toSnap.f a1_0 a1_1).bind fun bt458 => ((spec_SnapOK.f k bt452.1 bt452.2 bt458.1 bt458.2).bind fun t460 => ((laws_toBase.f k l0_0 l0_1).bind fun bt461 => ((laws_toSnap.f a1_0 a1_1).bind fun bt468 => ((impl_SnapOK.f k bt461.1 bt461.2 bt468.1 bt468.2).bind fun t470 => (if (t470 != t460) = true then (some false) else ((laws_toBase.f k l0_0 l0_1).bind fun bt471 => ((laws_eqBase.f k bt461.1 bt461.2 bt471.1 bt471.2).bind fun t477 => (if t477 = true then (some true) else (some false))))))))))))))
set_option maxHeartbeats 8000000 in
set_option maxRecDepth 100000 in
theorem laws_FnExactSnapOK.calls (k : Nat) (A0_0 : Option Addr) (c0_0 : Nat) (l0_0 : List (S75)) (A0_1 : Option Addr) (c0_1 : Nat) (l0_1 : List (S118)) (a1_0 : ByteArray) (a1_1 : Int) (w : World) (hr0_0 : Kd.C k75 w A0_0 l0_0.length l0_0) (hc0_0 : l0_0.length ≤ c0_0) (hr0_1 : Kd.C k118 w A0_1 l0_1.length l0_1) (hc0_1 : l0_1.length ≤ c0_1) (h : laws_FnExactSnapOK.f k l0_0 l0_1 a1_0 a1_1 = some true) :
  Calls Try.prog 6 #[.agg #[.slice A0_0 l0_0.length c0_0, .slice A0_1 l0_1.length c0_1], .agg #[.string a1_0, .int .i64 a1_1]] w fun e w' => e = .returned (.bool true) ∧ Below w.heap.size w w' := by
 have hu44 := Try.underlying44
 have hu50 := Try.underlying50
 have hu32 := Try.underlying32
 have HR0_0 := Aside0.mk hr0_0
 have HC0_0 := Aside0.mk hc0_0
 clear hr0_0 hc0_0
 have HR0_1 := Aside0.mk hr0_1
 have HC0_1 := Aside0.mk hc0_1
 clear hr0_1 hc0_1
 have HB := Aside0.mk (Below.refl w.heap.size w)
 have H : ((laws_szBase.f k l0_0 l0_1 1048576).bind fun t450 => (if t450 < 0 then (some true) else ((laws_szSnap.f a1_0 a1_1 t450).bind fun t451 => (if t451 < 0 then (some true) else ((laws_toBase.f k l0_0 l0_1).bind fun bt452 => ((laws_toSnap.f a1_0 a1_1).bind fun bt458 => ((spec_SnapOK.f k bt452.1 bt452.2 bt458.1 bt458.2).bind fun t460 => ((laws_toBase.f k l0_0 l0_1).bind fun bt461 => ((laws_toSnap.f a1_0 a1_1).bind fun bt468 => ((impl_SnapOK.f k bt461.1 bt461.2 bt468.1 bt468.2).bind fun t470 => (if (t470 != t460) = true then (some false) else ((laws_toBase.f k l0_0 l0_1).bind fun bt471 => ((laws_eqBase.f k bt461.1 bt461.2 bt471.1 bt471.2).bind fun t477 => (if t477 = true then (some true) else (some false))))))))))))))) = some true := h
 clear h
 replace H := Option.bind_eq_some_iff.mp H
 obtain ⟨t450, A30, H⟩ := H
 replace H : (if t450 < 0 then (some true) else ((laws_szSnap.f a1_0 a1_1 t450).bind fun t451 => (if t451 < 0 then (some true) else ((laws_toBase.f k l0_0 l0_1).bind fun bt452 => ((laws_toSnap.f a1_0 a1_1).bind fun bt458 => ((spec_SnapOK.f k bt452.1 bt452.2 bt458.1 bt458.2).bind fun t460 => ((laws_toBase.f k l0_0 l0_1).bind fun bt461 => ((laws_toSnap.f a1_0 a1_1).bind fun bt468 => ((impl_SnapOK.f k bt461.1 bt461.2 bt468.1 bt468.2).bind fun t470 => (if (t470 != t460) = true then (some false) else ((laws_toBase.f k l0_0 l0_1).bind fun bt471 => ((laws_eqBase.f k bt461.1 bt461.2 bt471.1 bt471.2).bind fun t477 => (if t477 = true then (some true) else (some false)))))))))))))) = some true := H
 have A3 := Aside0.mk A30
 clear A30
 by_cases c4 : t450 < 0
 ·rw [if_pos c4] at H
  have c4b0 : decide (t450 < 0) = true := decide_eq_true c4
  clear c4
  clear H
  go_enter Try.func6, Try.ntmps6
  go_wp2_with (first | ((with_reducible refine gate_dst (N := 2) rfl ?_); refine bE (N := 2) (cs := #[.slice A0_0 l0_0.length c0_0, .slice A0_1 l0_1.length c0_1]) (t := 44) ?_; intro gb448 hg w5 hbox hb; have n0_ := Aside0.mk (below_step (w := w) bW hb); have n1_ := Aside0.mk (hbox); have n2_ := Aside0.mk (gS (w := w) hg); have n3_ := n2_; clear HB; have HB := n0_; have BK448 := n1_; have GW448 := n2_; have GE448 := n3_; clear n0_ n1_ n2_ n3_; clear hb hbox hg) | ((with_reducible refine gate_dst (N := 3) rfl ?_); refine bE (N := 3) (cs := #[.string a1_0, .int .i64 a1_1]) (t := 50) ?_; intro gb449 hg w6 hbox hb; have n0_ := Aside0.mk (kb BK448 hb); have n1_ := Aside0.mk (below_step (w := w) bW hb); have n2_ := Aside0.mk (hbox); have n3_ := Aside0.mk (gS (w := w) hg); have n4_ := n3_; have n5_ := Aside0.mk (nL BK448 hg); have n6_ := Aside0.mk (nG BK448 hg); clear BK448; clear HB; have BK448 := n0_; have HB := n1_; have BK449 := n2_; have GW449 := n3_; have GE449 := n4_; have NB448_449 := n5_; have NB449_448 := n6_; clear n0_ n1_ n2_ n3_ n4_ n5_ n6_; clear hb hbox hg; have hnb7 := NB448_449.out; have hnc7 := NB449_448.out; obtain ⟨hcz8_0, hcz8_1⟩ := cz2 BK448; obtain ⟨hfz8_0, hfz8_1⟩ := fz2 BK448) | ((with_reducible refine gate_callee (f := 27) rfl ?_); refine goesL_ (some 11) rfl rfl Try.func27 (by kernel_rfl) rfl #[.agg #[.slice A0_0 l0_0.length c0_0, .slice A0_1 l0_1.length c0_1], .int .i64 1048576] rfl gA ?_; (with_reducible refine (laws_szBase.calls k _ _ l0_0 _ _ l0_1 1048576 t450 _ ?side1 ?side2 ?side3 ?side4 A3.out).mono ?_); (case side1 => exact cB HR0_0); (case side2 => exact HC0_0.out); (case side3 => exact cB HR0_1); (case side4 => exact HC0_1.out); rintro e w9 ⟨rfl, hb⟩; refine ⟨_, rfl, ?_⟩; have n0_ := Aside0.mk (kb BK448 hb); have n1_ := Aside0.mk (kb BK449 hb); have n2_ := Aside0.mk (below_step (w := w) bW hb); clear BK448; clear BK449; clear HB; have BK448 := n0_; have BK449 := n1_; have HB := n2_; clear n0_ n1_ n2_; (try clear hb); (try clear hb2); (try clear hk); (try clear hi)))
  go_ret
  exact ⟨rE, bW⟩
 ·rw [if_neg c4] at H
  have c4b0 : decide (t450 < 0) = false := decide_eq_false c4
  clear c4
  replace H := Option.bind_eq_some_iff.mp H
  obtain ⟨t451, A100, H⟩ := H
  replace H : (if t451 < 0 then (some true) else ((laws_toBase.f k l0_0 l0_1).bind fun bt452 => ((laws_toSnap.f a1_0 a1_1).bind fun bt458 => ((spec_SnapOK.f k bt452.1 bt452.2 bt458.1 bt458.2).bind fun t460 => ((laws_toBase.f k l0_0 l0_1).bind fun bt461 => ((laws_toSnap.f a1_0 a1_1).bind fun bt468 => ((impl_SnapOK.f k bt461.1 bt461.2 bt468.1 bt468.2).bind fun t470 => (if (t470 != t460) = true then (some false) else ((laws_toBase.f k l0_0 l0_1).bind fun bt471 => ((laws_eqBase.f k bt461.1 bt461.2 bt471.1 bt471.2).bind fun t477 => (if t477 = true then (some true) else (some false)))))))))))) = some true := H
  have A10 := Aside0.mk A100
  clear A100
  by_cases c11 : t451 < 0
  ·rw [if_pos c11] at H
   have c11b0 : decide (t451 < 0) = true := decide_eq_true c11
   clear c11
   clear H
   go_enter Try.func6, Try.ntmps6
   go_wp2_with (first | ((with_reducible refine gate_dst (N := 2) rfl ?_); refine bE (N := 2) (cs := #[.slice A0_0 l0_0.length c0_0, .slice A0_1 l0_1.length c0_1]) (t := 44) ?_; intro gb448 hg w12 hbox hb; have n0_ := Aside0.mk (below_step (w := w) bW hb); have n1_ := Aside0.mk (hbox); have n2_ := Aside0.mk (gS (w := w) hg); have n3_ := n2_; clear HB; have HB := n0_; have BK448 := n1_; have GW448 := n2_; have GE448 := n3_; clear n0_ n1_ n2_ n3_; clear hb hbox hg) | ((with_reducible refine gate_dst (N := 3) rfl ?_); refine bE (N := 3) (cs := #[.string a1_0, .int .i64 a1_1]) (t := 50) ?_; intro gb449 hg w13 hbox hb; have n0_ := Aside0.mk (kb BK448 hb); have n1_ := Aside0.mk (below_step (w := w) bW hb); have n2_ := Aside0.mk (hbox); have n3_ := Aside0.mk (gS (w := w) hg); have n4_ := n3_; have n5_ := Aside0.mk (nL BK448 hg); have n6_ := Aside0.mk (nG BK448 hg); clear BK448; clear HB; have BK448 := n0_; have HB := n1_; have BK449 := n2_; have GW449 := n3_; have GE449 := n4_; have NB448_449 := n5_; have NB449_448 := n6_; clear n0_ n1_ n2_ n3_ n4_ n5_ n6_; clear hb hbox hg; have hnb14 := NB448_449.out; have hnc14 := NB449_448.out; obtain ⟨hcz15_0, hcz15_1⟩ := cz2 BK448; obtain ⟨hfz15_0, hfz15_1⟩ := fz2 BK448) | ((with_reducible refine gate_callee (f := 27) rfl ?_); refine goesL_ (some 11) rfl rfl Try.func27 (by kernel_rfl) rfl #[.agg #[.slice A0_0 l0_0.length c0_0, .slice A0_1 l0_1.length c0_1], .int .i64 1048576] rfl gA ?_; (with_reducible refine (laws_szBase.calls k _ _ l0_0 _ _ l0_1 1048576 t450 _ ?side1 ?side2 ?side3 ?side4 A3.out).mono ?_); (case side1 => exact cB HR0_0); (case side2 => exact HC0_0.out); (case side3 => exact cB HR0_1); (case side4 => exact HC0_1.out); rintro e w16 ⟨rfl, hb⟩; refine ⟨_, rfl, ?_⟩; have n0_ := Aside0.mk (kb BK448 hb); have n1_ := Aside0.mk (kb BK449 hb); have n2_ := Aside0.mk (below_step (w := w) bW hb); clear BK448; clear BK449; clear HB; have BK448 := n0_; have BK449 := n1_; have HB := n2_; clear n0_ n1_ n2_; (try clear hb); (try clear hb2); (try clear hk); (try clear hi); obtain ⟨hcz17_0, hcz17_1⟩ := cz2 BK449; obtain ⟨hfz17_0, hfz17_1⟩ := fz2 BK449) | ((with_reducible refine gate_callee (f := 31) rfl ?_); refine goesL_ (some 16) rfl rfl Try.func31 (by kernel_rfl) rfl #[.agg #[.string a1_0, .int .i64 a1_1], .int .i64 t450] rfl gA ?_; (with_reducible refine (laws_szSnap.calls a1_0 a1_1 t450 t451 _ A10.out).mono ?_); rintro e w18 ⟨rfl, hb⟩; refine ⟨_, rfl, ?_⟩; have n0_ := Aside0.mk (kb BK448 hb); have n1_ := Aside0.mk (kb BK449 hb); have n2_ := Aside0.mk (below_step (w := w) bW hb); clear BK448; clear BK449; clear HB; have BK448 := n0_; have BK449 := n1_; have HB := n2_; clear n0_ n1_ n2_; (try clear hb); (try clear hb2); (try clear hk); (try clear hi)))
   go_ret
   exact ⟨rE, bW⟩
  ·rw [if_neg c11] at H
   have c11b0 : decide (t451 < 0) = false := decide_eq_false c11
   clear c11
   replace H := Option.bind_eq_some_iff.mp H
   obtain ⟨⟨t452, t455⟩, A190, H⟩ := H
   replace H : ((laws_toSnap.f a1_0 a1_1).bind fun bt458 => ((spec_SnapOK.f k t452 t455 bt458.1 bt458.2).bind fun t460 => ((laws_toBase.f k l0_0 l0_1).bind fun bt461 => ((laws_toSnap.f a1_0 a1_1).bind fun bt468 => ((impl_SnapOK.f k bt461.1 bt461.2 bt468.1 bt468.2).bind fun t470 => (if (t470 != t460) = true then (some false) else ((laws_toBase.f k l0_0 l0_1).bind fun bt471 => ((laws_eqBase.f k bt461.1 bt461.2 bt471.1 bt471.2).bind fun t477 => (if t477 = true then (some true) else (some false)))))))))) = some true := H
   have A19 := Aside0.mk A190
   clear A190
   replace H := Option.bind_eq_some_iff.mp H
   obtain ⟨⟨t458, t459⟩, A200, H⟩ := H
   replace H : ((spec_SnapOK.f k t452 t455 t458 t459).bind fun t460 => ((laws_toBase.f k l0_0 l0_1).bind fun bt461 => ((laws_toSnap.f a1_0 a1_1).bind fun bt468 => ((impl_SnapOK.f k bt461.1 bt461.2 bt468.1 bt468.2).bind fun t470 => (if (t470 != t460) = true then (some false) else ((laws_toBase.f k l0_0 l0_1).bind fun bt471 => ((laws_eqBase.f k bt461.1 bt461.2 bt471.1 bt471.2).bind fun t477 => (if t477 = true then (some true) else (some false))))))))) = some true := H
   have A20 := Aside0.mk A200
   clear A200
   replace H := Option.bind_eq_some_iff.mp H
   obtain ⟨t460, A210, H⟩ := H
   replace H : ((laws_toBase.f k l0_0 l0_1).bind fun bt461 => ((laws_toSnap.f a1_0 a1_1).bind fun bt468 => ((impl_SnapOK.f k bt461.1 bt461.2 bt468.1 bt468.2).bind fun t470 => (if (t470 != t460) = true then (some false) else ((laws_toBase.f k l0_0 l0_1).bind fun bt471 => ((laws_eqBase.f k bt461.1 bt461.2 bt471.1 bt471.2).bind fun t477 => (if t477 = true then (some true) else (some false)))))))) = some true := H
   have A21 := Aside0.mk A210
   clear A210
   replace H := Option.bind_eq_some_iff.mp H
   obtain ⟨⟨t461, t464⟩, A220, H⟩ := H
   replace H : ((laws_toSnap.f a1_0 a1_1).bind fun bt468 => ((impl_SnapOK.f k t461 t464 bt468.1 bt468.2).bind fun t470 => (if (t470 != t460) = true then (some false) else ((laws_toBase.f k l0_0 l0_1).bind fun bt471 => ((laws_eqBase.f k t461 t464 bt471.1 bt471.2).bind fun t477 => (if t477 = true then (some true) else (some false))))))) = some true := H
   have A22 := Aside0.mk A220
   clear A220
   replace H := Option.bind_eq_some_iff.mp H
   obtain ⟨⟨t468, t469⟩, A230, H⟩ := H
   replace H : ((impl_SnapOK.f k t461 t464 t468 t469).bind fun t470 => (if (t470 != t460) = true then (some false) else ((laws_toBase.f k l0_0 l0_1).bind fun bt471 => ((laws_eqBase.f k t461 t464 bt471.1 bt471.2).bind fun t477 => (if t477 = true then (some true) else (some false)))))) = some true := H
   have A23 := Aside0.mk A230
   clear A230
   replace H := Option.bind_eq_some_iff.mp H
   obtain ⟨t470, A240, H⟩ := H
   replace H : (if (t470 != t460) = true then (some false) else ((laws_toBase.f k l0_0 l0_1).bind fun bt471 => ((laws_eqBase.f k t461 t464 bt471.1 bt471.2).bind fun t477 => (if t477 = true then (some true) else (some false))))) = some true := H
   have A24 := Aside0.mk A240
   clear A240
   by_cases c25 : (t470 != t460) = true
   ·rw [if_pos c25] at H
    exact absurd H (by simp)
   ·rw [if_neg c25] at H
    have c25b0 : (t470 != t460) = false := by simpa using c25
    (try (have c25b1 : decide (t470 = t460) = true := by simpa using c25))
    (try (have c25b2 : (t470 == t460) = true := by simpa using c25))
    clear c25
    replace H := Option.bind_eq_some_iff.mp H
    obtain ⟨⟨t471, t474⟩, A510, H⟩ := H
    replace H : ((laws_eqBase.f k t461 t464 t471 t474).bind fun t477 => (if t477 = true then (some true) else (some false))) = some true := H
    have A51 := Aside0.mk A510
    clear A510
    replace H := Option.bind_eq_some_iff.mp H
    obtain ⟨t477, A520, H⟩ := H
    replace H : (if t477 = true then (some true) else (some false)) = some true := H
    have A52 := Aside0.mk A520
    clear A520
    by_cases c53 : t477 = true
    ·subst c53
     have H1 : (some true) = some true := rfl
     clear H
     have H := H1
     clear H1
     clear H
     go_enter Try.func6, Try.ntmps6
     try go_wp2_with (first | ((with_reducible refine gate_dst (N := 2) rfl ?_); refine bE (N := 2) (cs := #[.slice A0_0 l0_0.length c0_0, .slice A0_1 l0_1.length c0_1]) (t := 44) ?_; intro gb448 hg w54 hbox hb; have n0_ := Aside0.mk (below_step (w := w) bW hb); have n1_ := Aside0.mk (hbox); have n2_ := Aside0.mk (gS (w := w) hg); have n3_ := n2_; clear HB; have HB := n0_; have BK448 := n1_; have GW448 := n2_; have GE448 := n3_; clear n0_ n1_ n2_ n3_; clear hb hbox hg) | ((with_reducible refine gate_dst (N := 3) rfl ?_); refine bE (N := 3) (cs := #[.string a1_0, .int .i64 a1_1]) (t := 50) ?_; intro gb449 hg w55 hbox hb; have n0_ := Aside0.mk (kb BK448 hb); have n1_ := Aside0.mk (below_step (w := w) bW hb); have n2_ := Aside0.mk (hbox); have n3_ := Aside0.mk (gS (w := w) hg); have n4_ := n3_; have n5_ := Aside0.mk (nL BK448 hg); have n6_ := Aside0.mk (nG BK448 hg); clear BK448; clear HB; have BK448 := n0_; have HB := n1_; have BK449 := n2_; have GW449 := n3_; have GE449 := n4_; have NB448_449 := n5_; have NB449_448 := n6_; clear n0_ n1_ n2_ n3_ n4_ n5_ n6_; clear hb hbox hg; have hnb56 := NB448_449.out; have hnc56 := NB449_448.out; obtain ⟨hcz57_0, hcz57_1⟩ := cz2 BK448; obtain ⟨hfz57_0, hfz57_1⟩ := fz2 BK448) | ((with_reducible refine gate_callee (f := 27) rfl ?_); refine goesL_ (some 11) rfl rfl Try.func27 (by kernel_rfl) rfl #[.agg #[.slice A0_0 l0_0.length c0_0, .slice A0_1 l0_1.length c0_1], .int .i64 1048576] rfl gA ?_; (with_reducible refine (laws_szBase.calls k _ _ l0_0 _ _ l0_1 1048576 t450 _ ?side1 ?side2 ?side3 ?side4 A3.out).mono ?_); (case side1 => exact cB HR0_0); (case side2 => exact HC0_0.out); (case side3 => exact cB HR0_1); (case side4 => exact HC0_1.out); rintro e w58 ⟨rfl, hb⟩; refine ⟨_, rfl, ?_⟩; have n0_ := Aside0.mk (kb BK448 hb); have n1_ := Aside0.mk (kb BK449 hb); have n2_ := Aside0.mk (below_step (w := w) bW hb); clear BK448; clear BK449; clear HB; have BK448 := n0_; have BK449 := n1_; have HB := n2_; clear n0_ n1_ n2_; (try clear hb); (try clear hb2); (try clear hk); (try clear hi); obtain ⟨hcz59_0, hcz59_1⟩ := cz2 BK449; obtain ⟨hfz59_0, hfz59_1⟩ := fz2 BK449) | ((with_reducible refine gate_callee (f := 31) rfl ?_); refine goesL_ (some 16) rfl rfl Try.func31 (by kernel_rfl) rfl #[.agg #[.string a1_0, .int .i64 a1_1], .int .i64 t450] rfl gA ?_; (with_reducible refine (laws_szSnap.calls a1_0 a1_1 t450 t451 _ A10.out).mono ?_); rintro e w60 ⟨rfl, hb⟩; refine ⟨_, rfl, ?_⟩; have n0_ := Aside0.mk (kb BK448 hb); have n1_ := Aside0.mk (kb BK449 hb); have n2_ := Aside0.mk (below_step (w := w) bW hb); clear BK448; clear BK449; clear HB; have BK448 := n0_; have BK449 := n1_; have HB := n2_; clear n0_ n1_ n2_; (try clear hb); (try clear hb2); (try clear hk); (try clear hi)))
     have n0_ := Aside0.mk (blk_drew BK448.out)
     have n1_ := Aside0.mk (blk_drew BK449.out)
     have n2_ := Aside0.mk (below_drew1 HB.out)
     clear BK448
     clear BK449
     clear HB
     have BK448 := n0_
     have BK449 := n1_
     have HB := n2_
     clear n0_ n1_ n2_
     refine start_ (n := 6) (S := fun w' => w'.cell? ⟨gb448, 0, none⟩ = some (.slice A0_0 l0_0.length c0_0) ∧ w'.cell? ⟨gb448, 1, none⟩ = some (.slice A0_1 l0_1.length c0_1) ∧ w'.cell? ⟨gb449, 0, none⟩ = some (.string a1_0) ∧ w'.cell? ⟨gb449, 1, none⟩ = some (.int .i64 a1_1)) (ds := []) #[false, false, false, false, false, false] (by kernel_rfl) rfl rfl ⟨(blk_cell BK448.out 0).trans rfl, (blk_cell BK448.out 1).trans rfl, (blk_cell BK449.out 0).trans rfl, (blk_cell BK449.out 1).trans rfl⟩ (fun hHeld => ?_)
     generalize w60.drew = w61 at BK448 BK449 HB hHeld ⊢
     refine take_ (i := 0) (N := some 19) (v := ?_) (a' := ?_) #[true, false, false, false, false, false] rfl rfl (by kernel_rfl) (fun _ _ _ h => h) (Or.inl ⟨by rfl, ?_⟩) hHeld ?_ ?_
     rotate_left
     ·rintro w' ⟨s0, s1, s2, s3⟩
      go_simp
      with_reducible rfl
     rotate_left
     ·simp only [Act.put, List.setIfInBounds_toArray, List.set_cons_zero, List.set_cons_succ, i64_w, i32_w]
      rfl
     refine take_ (i := 2) (N := some 21) (v := ?_) (a' := ?_) #[true, false, true, false, false, false] rfl rfl (by kernel_rfl) (fun _ _ _ h => h) (Or.inl ⟨by rfl, ?_⟩) hHeld ?_ ?_
     rotate_left
     ·rintro w' ⟨s0, s1, s2, s3⟩
      go_simp
      with_reducible rfl
     rotate_left
     ·simp only [Act.put, List.setIfInBounds_toArray, List.set_cons_zero, List.set_cons_succ, i64_w, i32_w]
      rfl
     refine one_ (i := 1) (N := some 20) #[true, true, true, false, false, false] rfl rfl (by kernel_rfl) (by decide) (fun K hK => ?_)
     refine goes_ Try.func29 (by kernel_rfl) rfl #[.agg #[.slice A0_0 l0_0.length c0_0, .slice A0_1 l0_1.length c0_1]] (by rfl) rfl rfl gA ?_
     with_reducible refine (laws_toBase.calls k _ _ l0_0 _ _ l0_1 t452 t455 _ ?side1 ?side2 ?side3 ?side4 A19.out).mono ?_
     (case side1 => exact cB HR0_0)
     (case side2 => exact HC0_0.out)
     (case side3 => exact cB HR0_1)
     (case side4 => exact HC0_1.out)
     rintro e w62 ⟨v453, v456, rfl, ho0, ho1, hb⟩
     refine ⟨_, rfl, ?_⟩
     have n0_ := Aside0.mk (Kd.S_lower ho0 (below_size (w := w) bW))
     have n1_ := Aside0.mk (Kd.R_lower ho1 (below_size (w := w) bW))
     have n2_ := Aside0.mk (kb BK448 hb)
     have n3_ := Aside0.mk (kb BK449 hb)
     have n4_ := Aside0.mk (below_step (w := w) bW hb)
     clear BK448
     clear BK449
     clear HB
     have HO454 := n0_
     have HO457 := n1_
     have BK448 := n2_
     have BK449 := n3_
     have HB := n4_
     clear n0_ n1_ n2_ n3_ n4_
     (try clear hb)
     (try clear hb2)
     (try clear hk)
     (try clear hi)
     (try clear ho0)
     (try clear ho1)
     refine hK.out _ _ ⟨(blk_cell BK448.out 0).trans rfl, (blk_cell BK448.out 1).trans rfl, (blk_cell BK449.out 0).trans rfl, (blk_cell BK449.out 1).trans rfl⟩ (fun hHeld => ?_)
     clear hK K
     refine norm_ (a' := ?_) ?_ ?_
     rotate_left
     ·show Act.put _ (some 20) _ = _
      simp only [Act.put, List.setIfInBounds_toArray, List.set_cons_zero, List.set_cons_succ, i64_w, i32_w]
      rfl
     refine one_ (i := 3) (N := some 22) #[true, true, true, true, false, false] rfl rfl (by kernel_rfl) (by decide) (fun K hK => ?_)
     refine goes_ Try.func33 (by kernel_rfl) rfl #[.agg #[.string a1_0, .int .i64 a1_1]] (by rfl) rfl rfl gA ?_
     with_reducible refine (laws_toSnap.calls a1_0 a1_1 t458 t459 _ A20.out).mono ?_
     rintro e w63 ⟨rfl, hb⟩
     refine ⟨_, rfl, ?_⟩
     have n0_ := Aside0.mk (Kd.S_below (pS HO454) hb)
     have n1_ := Aside0.mk (Kd.R_below (pR HO457) hb)
     have n2_ := Aside0.mk (kb BK448 hb)
     have n3_ := Aside0.mk (kb BK449 hb)
     have n4_ := Aside0.mk (below_step (w := w) bW hb)
     clear HO454
     clear HO457
     clear BK448
     clear BK449
     clear HB
     have HO454 := n0_
     have HO457 := n1_
     have BK448 := n2_
     have BK449 := n3_
     have HB := n4_
     clear n0_ n1_ n2_ n3_ n4_
     (try clear hb)
     (try clear hb2)
     (try clear hk)
     (try clear hi)
     obtain ⟨Ao64, co64, eo64⟩ := Kd.S_slice HO454.out
     (first | subst eo64 | (injection eo64 with f1_ f2_ f3_; have f4_ := f1_.symm; have f5_ := f3_.symm; clear f1_ f2_ f3_; subst f4_; subst f5_))
     obtain ⟨Ao65, co65, eo65⟩ := Kd.R_slice HO457.out
     (first | subst eo65 | (injection eo65 with f1_ f2_ f3_; have f4_ := f1_.symm; have f5_ := f3_.symm; clear f1_ f2_ f3_; subst f4_; subst f5_))
     refine hK.out _ _ ⟨(blk_cell BK448.out 0).trans rfl, (blk_cell BK448.out 1).trans rfl, (blk_cell BK449.out 0).trans rfl, (blk_cell BK449.out 1).trans rfl⟩ (fun hHeld => ?_)
     clear hK K
     refine norm_ (a' := ?_) ?_ ?_
     rotate_left
     ·show Act.put _ (some 22) _ = _
      simp only [Act.put, List.setIfInBounds_toArray, List.set_cons_zero, List.set_cons_succ, i64_w, i32_w]
      rfl
     refine one_ (i := 4) (N := some 23) #[true, true, true, true, true, false] rfl rfl (by kernel_rfl) (by decide) (fun K hK => ?_)
     refine goes_ Try.func32 (by kernel_rfl) rfl #[.agg #[.slice Ao64 t452.length co64, .slice Ao65 t455.length co65], .agg #[.string t458, .int .i64 t459]] (by rfl) rfl rfl gA ?_
     with_reducible refine (spec_SnapOK.calls k _ _ t452 _ _ t455 t458 t459 t460 _ ?side1 ?side2 ?side3 ?side4 A21.out).mono ?_
     (case side1 => repeat (first | exact (Kd.S_reads' HO454.out).2.2 | (with_reducible refine Kd.C_alloc ?_ _) | (with_reducible refine Kd.C_drewN ?_ _) | (with_reducible refine Kd.C_drew ?_)))
     (case side2 => exact (Kd.S_reads' HO454.out).2.1)
     (case side3 => repeat (first | exact (Kd.R_reads' HO457.out).2.2 | (with_reducible refine Kd.C_alloc ?_ _) | (with_reducible refine Kd.C_drewN ?_ _) | (with_reducible refine Kd.C_drew ?_)))
     (case side4 => exact (Kd.R_reads' HO457.out).2.1)
     rintro e w66 ⟨rfl, hb⟩
     refine ⟨_, rfl, ?_⟩
     have n0_ := Aside0.mk (Kd.S_below (pS HO454) hb)
     have n1_ := Aside0.mk (Kd.R_below (pR HO457) hb)
     have n2_ := Aside0.mk (kb BK448 hb)
     have n3_ := Aside0.mk (kb BK449 hb)
     have n4_ := Aside0.mk (below_step (w := w) bW hb)
     clear HO454
     clear HO457
     clear BK448
     clear BK449
     clear HB
     have HO454 := n0_
     have HO457 := n1_
     have BK448 := n2_
     have BK449 := n3_
     have HB := n4_
     clear n0_ n1_ n2_ n3_ n4_
     (try clear hb)
     (try clear hb2)
     (try clear hk)
     (try clear hi)
     refine hK.out _ _ ⟨(blk_cell BK448.out 0).trans rfl, (blk_cell BK448.out 1).trans rfl, (blk_cell BK449.out 0).trans rfl, (blk_cell BK449.out 1).trans rfl⟩ (fun hHeld => ?_)
     clear hK K
     refine norm_ (a' := ?_) ?_ ?_
     rotate_left
     ·show Act.put _ (some 23) _ = _
      simp only [Act.put, List.setIfInBounds_toArray, List.set_cons_zero, List.set_cons_succ, i64_w, i32_w]
      rfl
     refine pure_ (i := 5) (N := some 6) (v := ?_) (a' := ?_) #[true, true, true, true, true, true] rfl rfl (by kernel_rfl) (fun _ _ _ h => h) (Or.inl ⟨by rfl, ?_⟩) ?_ ?_
     rotate_left
     ·intro w'
      go_simp
      with_reducible rfl
     rotate_left
     ·simp only [Act.put, List.setIfInBounds_toArray, List.set_cons_zero, List.set_cons_succ, i64_w, i32_w]
      rfl
     refine done_ (by kernel_rfl) ?_
     have hcz67_0 : w66.cell? ⟨gb448, 0, none⟩ = some (.slice A0_0 l0_0.length c0_0) := (blk_cell BK448.out 0).trans rfl
     have hcz67_1 : w66.cell? ⟨gb448, 1, none⟩ = some (.slice A0_1 l0_1.length c0_1) := (blk_cell BK448.out 1).trans rfl
     have hfz67_0 := blk_frozen BK448.out 0
     have hfz67_1 := blk_frozen BK448.out 1
     try go_wp2_with (first | ((with_reducible refine gate_callee (f := 29) rfl ?_); refine goesL_ (some 25) rfl rfl Try.func29 (by kernel_rfl) rfl #[.agg #[.slice A0_0 l0_0.length c0_0, .slice A0_1 l0_1.length c0_1]] rfl gA ?_; (with_reducible refine (laws_toBase.calls k _ _ l0_0 _ _ l0_1 t461 t464 _ ?side1 ?side2 ?side3 ?side4 A22.out).mono ?_); (case side1 => exact cB HR0_0); (case side2 => exact HC0_0.out); (case side3 => exact cB HR0_1); (case side4 => exact HC0_1.out); rintro e w68 ⟨v462, v465, rfl, ho0, ho1, hb⟩; refine ⟨_, rfl, ?_⟩; have n0_ := Aside0.mk (Kd.S_elder' (pS HO454) (Kd.S_base ho0) hb); have n1_ := Aside0.mk (Kd.R_elder' (pR HO457) (Kd.R_base ho1) hb); have n2_ := Aside0.mk (Kd.S_lower (Kd.S_new' ho0 (Kd.S_lt (pS HO454))) (below_size (w := w) bW)); have n3_ := Aside0.mk (Kd.R_lower (Kd.R_new' ho1 (Kd.R_lt (pR HO457))) (below_size (w := w) bW)); have n4_ := Aside0.mk (kb BK448 hb); have n5_ := Aside0.mk (kb BK449 hb); have n6_ := Aside0.mk (below_step (w := w) bW hb); clear HO454; clear HO457; clear BK448; clear BK449; clear HB; have HO454 := n0_; have HO457 := n1_; have HO463 := n2_; have HO466 := n3_; have BK448 := n4_; have BK449 := n5_; have HB := n6_; clear n0_ n1_ n2_ n3_ n4_ n5_ n6_; (try clear hb); (try clear hb2); (try clear hk); (try clear hi); (try clear ho0); (try clear ho1)) | ((with_reducible refine gate_dst (N := 7) rfl ?_); refine bE (N := 7) (cs := #[.slice none 0 0, .slice none 0 0]) (t := 32) ?_; intro gb467 hg w69 hbox hb; have n0_ := Aside0.mk (Kd.S_below (pS HO454) hb); have n1_ := Aside0.mk (Kd.R_below (pR HO457) hb); have n2_ := Aside0.mk (Kd.S_below (pS HO463) hb); have n3_ := Aside0.mk (Kd.R_below (pR HO466) hb); have n4_ := Aside0.mk (kb BK448 hb); have n5_ := Aside0.mk (kb BK449 hb); have n6_ := Aside0.mk (below_step (w := w) bW hb); have n7_ := Aside0.mk (hbox); have n8_ := Aside0.mk (gS (w := w) hg); have n9_ := n8_; have n10_ := Aside0.mk (nL BK448 hg); have n11_ := Aside0.mk (nG BK448 hg); have n12_ := Aside0.mk (nL BK449 hg); have n13_ := Aside0.mk (nG BK449 hg); clear HO454; clear HO457; clear HO463; clear HO466; clear BK448; clear BK449; clear HB; have HO454 := n0_; have HO457 := n1_; have HO463 := n2_; have HO466 := n3_; have BK448 := n4_; have BK449 := n5_; have HB := n6_; have BK467 := n7_; have GW467 := n8_; have GE467 := n9_; have NB448_467 := n10_; have NB467_448 := n11_; have NB449_467 := n12_; have NB467_449 := n13_; clear n0_ n1_ n2_ n3_ n4_ n5_ n6_ n7_ n8_ n9_ n10_ n11_ n12_ n13_; clear hb hbox hg; obtain ⟨Ao70, co70, eo70⟩ := Kd.S_slice HO463.out; subst eo70; have hnb71 := NB467_448.out; have hnc71 := NB448_467.out; have hnb72 := NB467_449.out; have hnc72 := NB449_467.out; obtain ⟨hcz73_0, hcz73_1⟩ := cz2 BK467; obtain ⟨hfz73_0, hfz73_1⟩ := fz2 BK467; obtain ⟨Ao74, co74, eo74⟩ := Kd.R_slice HO466.out; subst eo74))
     have n0_ : Aside0 (Kd.S k78 78 ((w69.setCell ⟨gb467, 0, none⟩ (.slice Ao70 t461.length co70)).setCell ⟨gb467, 1, none⟩ (.slice Ao74 t464.length co74)) w.heap.size (fun k_ => some k_ ≠ (.slice Ao70 t461.length co70 : Value).ownBlock) (.slice Ao64 t452.length co64) t452) := ⟨by (with_reducible repeat (first | apply Kd.S_alloc | apply Kd.S_drewN | apply Kd.S_drew)); exact Kd.S_mono (Kd.S_far (p := ⟨gb467, 1, none⟩) (Kd.S_far (p := ⟨gb467, 0, none⟩) (Kd.S_types HO454.out BK467.out (by decide)) (fun _ hk => hk.2) (.slice Ao70 t461.length co70)) (fun _ hk => hk.2) (.slice Ao74 t464.length co74)) (fun _ hk => hk.1.2)⟩
     have n1_ : Aside0 (Kd.R k92 92 ((w69.setCell ⟨gb467, 0, none⟩ (.slice Ao70 t461.length co70)).setCell ⟨gb467, 1, none⟩ (.slice Ao74 t464.length co74)) w.heap.size (fun k_ => some k_ ≠ (.slice Ao74 t464.length co74 : Value).ownBlock) (.slice Ao65 t455.length co65) t455) := ⟨by (with_reducible repeat (first | apply Kd.R_alloc | apply Kd.R_drewN | apply Kd.R_drew)); exact Kd.R_mono (Kd.R_far (p := ⟨gb467, 1, none⟩) (Kd.R_far (p := ⟨gb467, 0, none⟩) (Kd.R_types HO457.out BK467.out (by decide)) (fun _ hk => hk.2) (.slice Ao70 t461.length co70)) (fun _ hk => hk.2) (.slice Ao74 t464.length co74)) (fun _ hk => hk.1.2)⟩
     have n2_ : Aside0 (Kd.S k78 78 ((w69.setCell ⟨gb467, 0, none⟩ (.slice Ao70 t461.length co70)).setCell ⟨gb467, 1, none⟩ (.slice Ao74 t464.length co74)) w.heap.size (fun k_ => some k_ ≠ (.slice Ao64 t452.length co64 : Value).ownBlock) (.slice Ao70 t461.length co70) t461) := ⟨by (with_reducible repeat (first | apply Kd.S_alloc | apply Kd.S_drewN | apply Kd.S_drew)); exact Kd.S_mono (Kd.S_far (p := ⟨gb467, 1, none⟩) (Kd.S_far (p := ⟨gb467, 0, none⟩) (Kd.S_types HO463.out BK467.out (by decide)) (fun _ hk => hk.2) (.slice Ao70 t461.length co70)) (fun _ hk => hk.2) (.slice Ao74 t464.length co74)) (fun _ hk => hk.1.2)⟩
     have n3_ : Aside0 (Kd.R k92 92 ((w69.setCell ⟨gb467, 0, none⟩ (.slice Ao70 t461.length co70)).setCell ⟨gb467, 1, none⟩ (.slice Ao74 t464.length co74)) w.heap.size (fun k_ => some k_ ≠ (.slice Ao65 t455.length co65 : Value).ownBlock) (.slice Ao74 t464.length co74) t464) := ⟨by (with_reducible repeat (first | apply Kd.R_alloc | apply Kd.R_drewN | apply Kd.R_drew)); exact Kd.R_mono (Kd.R_far (p := ⟨gb467, 1, none⟩) (Kd.R_far (p := ⟨gb467, 0, none⟩) (Kd.R_types HO466.out BK467.out (by decide)) (fun _ hk => hk.2) (.slice Ao70 t461.length co70)) (fun _ hk => hk.2) (.slice Ao74 t464.length co74)) (fun _ hk => hk.1.2)⟩
     have n4_ : Aside0 (((w69.setCell ⟨gb467, 0, none⟩ (.slice Ao70 t461.length co70)).setCell ⟨gb467, 1, none⟩ (.slice Ao74 t464.length co74)).heap[gb448]? = some (.cells #[.slice A0_0 l0_0.length c0_0, .slice A0_1 l0_1.length c0_1] 44 (0, 0))) := ⟨by (with_reducible repeat (first | refine blk_drewN ?_ _ | refine blk_drew ?_ | refine blk_alloc ?_ _)); refine blk_far ?_ NB448_467.out _; (with_reducible repeat (first | refine blk_drewN ?_ _ | refine blk_drew ?_ | refine blk_alloc ?_ _)); refine blk_far ?_ NB448_467.out _; (with_reducible repeat (first | refine blk_drewN ?_ _ | refine blk_drew ?_ | refine blk_alloc ?_ _)); exact BK448.out⟩
     have n5_ : Aside0 (((w69.setCell ⟨gb467, 0, none⟩ (.slice Ao70 t461.length co70)).setCell ⟨gb467, 1, none⟩ (.slice Ao74 t464.length co74)).heap[gb449]? = some (.cells #[.string a1_0, .int .i64 a1_1] 50 (0, 0))) := ⟨by (with_reducible repeat (first | refine blk_drewN ?_ _ | refine blk_drew ?_ | refine blk_alloc ?_ _)); refine blk_far ?_ NB449_467.out _; (with_reducible repeat (first | refine blk_drewN ?_ _ | refine blk_drew ?_ | refine blk_alloc ?_ _)); refine blk_far ?_ NB449_467.out _; (with_reducible repeat (first | refine blk_drewN ?_ _ | refine blk_drew ?_ | refine blk_alloc ?_ _)); exact BK449.out⟩
     have n6_ : Aside0 (((w69.setCell ⟨gb467, 0, none⟩ (.slice Ao70 t461.length co70)).setCell ⟨gb467, 1, none⟩ (.slice Ao74 t464.length co74)).heap[gb467]? = some (.cells #[.slice Ao70 t461.length co70, .slice Ao74 t464.length co74] 32 (0, 0))) := ⟨by (with_reducible repeat (first | refine blk_drewN ?_ _ | refine blk_drew ?_ | refine blk_alloc ?_ _)); refine blk_put (cs := #[.slice Ao70 t461.length co70, .slice none 0 0]) ?_ 1 _ rfl; (with_reducible repeat (first | refine blk_drewN ?_ _ | refine blk_drew ?_ | refine blk_alloc ?_ _)); refine blk_put (cs := #[.slice none 0 0, .slice none 0 0]) ?_ 0 _ rfl; (with_reducible repeat (first | refine blk_drewN ?_ _ | refine blk_drew ?_ | refine blk_alloc ?_ _)); exact BK467.out⟩
     have n7_ : Aside0 (Below w.heap.size w ((w69.setCell ⟨gb467, 0, none⟩ (.slice Ao70 t461.length co70)).setCell ⟨gb467, 1, none⟩ (.slice Ao74 t464.length co74))) := ⟨bW⟩
     (try clear HO454)
     (try clear HO457)
     (try clear HO463)
     (try clear HO466)
     (try clear BK448)
     (try clear BK449)
     (try clear BK467)
     (try clear HB)
     generalize ((w69.setCell ⟨gb467, 0, none⟩ (.slice Ao70 t461.length co70)).setCell ⟨gb467, 1, none⟩ (.slice Ao74 t464.length co74)) = w75 at n0_ n1_ n2_ n3_ n4_ n5_ n6_ n7_ ⊢
     have HO454 := n0_
     have HO457 := n1_
     have HO463 := n2_
     have HO466 := n3_
     have BK448 := n4_
     have BK449 := n5_
     have BK467 := n6_
     have HB := n7_
     clear n0_ n1_ n2_ n3_ n4_ n5_ n6_ n7_
     have n0_ := Aside0.mk (Kd.S_drew HO454.out)
     have n1_ := Aside0.mk (Kd.R_drew HO457.out)
     have n2_ := Aside0.mk (Kd.S_drew HO463.out)
     have n3_ := Aside0.mk (Kd.R_drew HO466.out)
     have n4_ := Aside0.mk (blk_drew BK448.out)
     have n5_ := Aside0.mk (blk_drew BK449.out)
     have n6_ := Aside0.mk (blk_drew BK467.out)
     have n7_ := Aside0.mk (below_drew1 HB.out)
     clear HO454
     clear HO457
     clear HO463
     clear HO466
     clear BK448
     clear BK449
     clear BK467
     clear HB
     have HO454 := n0_
     have HO457 := n1_
     have HO463 := n2_
     have HO466 := n3_
     have BK448 := n4_
     have BK449 := n5_
     have BK467 := n6_
     have HB := n7_
     clear n0_ n1_ n2_ n3_ n4_ n5_ n6_ n7_
     refine start_ (n := 5) (S := fun w' => w'.cell? ⟨gb467, 0, none⟩ = some (.slice Ao70 t461.length co70) ∧ w'.cell? ⟨gb467, 1, none⟩ = some (.slice Ao74 t464.length co74) ∧ w'.cell? ⟨gb449, 0, none⟩ = some (.string a1_0) ∧ w'.cell? ⟨gb449, 1, none⟩ = some (.int .i64 a1_1)) (ds := []) #[false, false, false, false, false] (by kernel_rfl) rfl rfl ⟨(blk_cell BK467.out 0).trans rfl, (blk_cell BK467.out 1).trans rfl, (blk_cell BK449.out 0).trans rfl, (blk_cell BK449.out 1).trans rfl⟩ (fun hHeld => ?_)
     generalize w75.drew = w76 at HO454 HO457 HO463 HO466 BK448 BK449 BK467 HB hHeld ⊢
     refine take_ (i := 0) (N := some 26) (v := ?_) (a' := ?_) #[true, false, false, false, false] rfl rfl (by kernel_rfl) (fun _ _ _ h => h) (Or.inl ⟨by rfl, ?_⟩) hHeld ?_ ?_
     rotate_left
     ·rintro w' ⟨s0, s1, s2, s3⟩
      go_simp
      with_reducible rfl
     rotate_left
     ·simp only [Act.put, List.setIfInBounds_toArray, List.set_cons_zero, List.set_cons_succ, i64_w, i32_w]
      rfl
     refine take_ (i := 1) (N := some 27) (v := ?_) (a' := ?_) #[true, true, false, false, false] rfl rfl (by kernel_rfl) (fun _ _ _ h => h) (Or.inl ⟨by rfl, ?_⟩) hHeld ?_ ?_
     rotate_left
     ·rintro w' ⟨s0, s1, s2, s3⟩
      go_simp
      with_reducible rfl
     rotate_left
     ·simp only [Act.put, List.setIfInBounds_toArray, List.set_cons_zero, List.set_cons_succ, i64_w, i32_w]
      rfl
     refine one_ (i := 2) (N := some 28) #[true, true, true, false, false] rfl rfl (by kernel_rfl) (by decide) (fun K hK => ?_)
     refine goes_ Try.func33 (by kernel_rfl) rfl #[.agg #[.string a1_0, .int .i64 a1_1]] (by rfl) rfl rfl gA ?_
     with_reducible refine (laws_toSnap.calls a1_0 a1_1 t468 t469 _ A23.out).mono ?_
     rintro e w77 ⟨rfl, hb⟩
     refine ⟨_, rfl, ?_⟩
     have n0_ := Aside0.mk (Kd.S_below (pS HO454) hb)
     have n1_ := Aside0.mk (Kd.R_below (pR HO457) hb)
     have n2_ := Aside0.mk (Kd.S_below (pS HO463) hb)
     have n3_ := Aside0.mk (Kd.R_below (pR HO466) hb)
     have n4_ := Aside0.mk (kb BK448 hb)
     have n5_ := Aside0.mk (kb BK449 hb)
     have n6_ := Aside0.mk (kb BK467 hb)
     have n7_ := Aside0.mk (below_step (w := w) bW hb)
     clear HO454
     clear HO457
     clear HO463
     clear HO466
     clear BK448
     clear BK449
     clear BK467
     clear HB
     have HO454 := n0_
     have HO457 := n1_
     have HO463 := n2_
     have HO466 := n3_
     have BK448 := n4_
     have BK449 := n5_
     have BK467 := n6_
     have HB := n7_
     clear n0_ n1_ n2_ n3_ n4_ n5_ n6_ n7_
     (try clear hb)
     (try clear hb2)
     (try clear hk)
     (try clear hi)
     refine hK.out _ _ ⟨(blk_cell BK467.out 0).trans rfl, (blk_cell BK467.out 1).trans rfl, (blk_cell BK449.out 0).trans rfl, (blk_cell BK449.out 1).trans rfl⟩ (fun hHeld => ?_)
     clear hK K
     refine norm_ (a' := ?_) ?_ ?_
     rotate_left
     ·show Act.put _ (some 28) _ = _
      simp only [Act.put, List.setIfInBounds_toArray, List.set_cons_zero, List.set_cons_succ, i64_w, i32_w]
      rfl
     refine one_ (i := 3) (N := some 29) #[true, true, true, true, false] rfl rfl (by kernel_rfl) (by decide) (fun K hK => ?_)
     refine goes_ Try.func34 (by kernel_rfl) rfl #[.agg #[.slice Ao70 t461.length co70, .slice Ao74 t464.length co74], .agg #[.string t468, .int .i64 t469]] (by rfl) rfl rfl gA ?_
     with_reducible refine (impl_SnapOK.calls k _ _ t461 _ _ t464 t468 t469 t470 _ ?side1 ?side2 ?side3 ?side4 A24.out).mono ?_
     (case side1 => repeat (first | exact (Kd.S_reads' HO463.out).2.2 | (with_reducible refine Kd.C_alloc ?_ _) | (with_reducible refine Kd.C_drewN ?_ _) | (with_reducible refine Kd.C_drew ?_)))
     (case side2 => exact (Kd.S_reads' HO463.out).2.1)
     (case side3 => repeat (first | exact (Kd.R_reads' HO466.out).2.2 | (with_reducible refine Kd.C_alloc ?_ _) | (with_reducible refine Kd.C_drewN ?_ _) | (with_reducible refine Kd.C_drew ?_)))
     (case side4 => exact (Kd.R_reads' HO466.out).2.1)
     rintro e w78 ⟨rfl, hb⟩
     refine ⟨_, rfl, ?_⟩
     have n0_ := Aside0.mk (Kd.S_below (pS HO454) hb)
     have n1_ := Aside0.mk (Kd.R_below (pR HO457) hb)
     have n2_ := Aside0.mk (Kd.S_below (pS HO463) hb)
     have n3_ := Aside0.mk (Kd.R_below (pR HO466) hb)
     have n4_ := Aside0.mk (kb BK448 hb)
     have n5_ := Aside0.mk (kb BK449 hb)
     have n6_ := Aside0.mk (kb BK467 hb)
     have n7_ := Aside0.mk (below_step (w := w) bW hb)
     clear HO454
     clear HO457
     clear HO463
     clear HO466
     clear BK448
     clear BK449
     clear BK467
     clear HB
     have HO454 := n0_
     have HO457 := n1_
     have HO463 := n2_
     have HO466 := n3_
     have BK448 := n4_
     have BK449 := n5_
     have BK467 := n6_
     have HB := n7_
     clear n0_ n1_ n2_ n3_ n4_ n5_ n6_ n7_
     (try clear hb)
     (try clear hb2)
     (try clear hk)
     (try clear hi)
     refine hK.out _ _ ⟨(blk_cell BK467.out 0).trans rfl, (blk_cell BK467.out 1).trans rfl, (blk_cell BK449.out 0).trans rfl, (blk_cell BK449.out 1).trans rfl⟩ (fun hHeld => ?_)
     clear hK K
     refine norm_ (a' := ?_) ?_ ?_
     rotate_left
     ·show Act.put _ (some 29) _ = _
      simp only [Act.put, List.setIfInBounds_toArray, List.set_cons_zero, List.set_cons_succ, i64_w, i32_w]
      rfl
     refine pure_ (i := 4) (N := some 8) (v := ?_) (a' := ?_) #[true, true, true, true, true] rfl rfl (by kernel_rfl) (fun _ _ _ h => h) (Or.inl ⟨by rfl, ?_⟩) ?_ ?_
     rotate_left
     ·intro w'
      go_simp
      with_reducible rfl
     rotate_left
     ·simp only [Act.put, List.setIfInBounds_toArray, List.set_cons_zero, List.set_cons_succ, i64_w, i32_w]
      rfl
     refine done_ (by kernel_rfl) ?_
     try go_wp2
     have n0_ := Aside0.mk (Kd.S_drew HO454.out)
     have n1_ := Aside0.mk (Kd.R_drew HO457.out)
     have n2_ := Aside0.mk (Kd.S_drew HO463.out)
     have n3_ := Aside0.mk (Kd.R_drew HO466.out)
     have n4_ := Aside0.mk (blk_drew BK448.out)
     have n5_ := Aside0.mk (blk_drew BK449.out)
     have n6_ := Aside0.mk (blk_drew BK467.out)
     have n7_ := Aside0.mk (below_drew1 HB.out)
     clear HO454
     clear HO457
     clear HO463
     clear HO466
     clear BK448
     clear BK449
     clear BK467
     clear HB
     have HO454 := n0_
     have HO457 := n1_
     have HO463 := n2_
     have HO466 := n3_
     have BK448 := n4_
     have BK449 := n5_
     have BK467 := n6_
     have HB := n7_
     clear n0_ n1_ n2_ n3_ n4_ n5_ n6_ n7_
     refine start_ (n := 5) (S := fun w' => w'.cell? ⟨gb467, 0, none⟩ = some (.slice Ao70 t461.length co70) ∧ w'.cell? ⟨gb467, 1, none⟩ = some (.slice Ao74 t464.length co74) ∧ w'.cell? ⟨gb448, 0, none⟩ = some (.slice A0_0 l0_0.length c0_0) ∧ w'.cell? ⟨gb448, 1, none⟩ = some (.slice A0_1 l0_1.length c0_1)) (ds := []) #[false, false, false, false, false] (by kernel_rfl) rfl rfl ⟨(blk_cell BK467.out 0).trans rfl, (blk_cell BK467.out 1).trans rfl, (blk_cell BK448.out 0).trans rfl, (blk_cell BK448.out 1).trans rfl⟩ (fun hHeld => ?_)
     generalize w78.drew = w79 at HO454 HO457 HO463 HO466 BK448 BK449 BK467 HB hHeld ⊢
     refine take_ (i := 0) (N := some 33) (v := ?_) (a' := ?_) #[true, false, false, false, false] rfl rfl (by kernel_rfl) (fun _ _ _ h => h) (Or.inl ⟨by rfl, ?_⟩) hHeld ?_ ?_
     rotate_left
     ·rintro w' ⟨s0, s1, s2, s3⟩
      go_simp
      with_reducible rfl
     rotate_left
     ·simp only [Act.put, List.setIfInBounds_toArray, List.set_cons_zero, List.set_cons_succ, i64_w, i32_w]
      rfl
     refine take_ (i := 1) (N := some 34) (v := ?_) (a' := ?_) #[true, true, false, false, false] rfl rfl (by kernel_rfl) (fun _ _ _ h => h) (Or.inl ⟨by rfl, ?_⟩) hHeld ?_ ?_
     rotate_left
     ·rintro w' ⟨s0, s1, s2, s3⟩
      go_simp
      with_reducible rfl
     rotate_left
     ·simp only [Act.put, List.setIfInBounds_toArray, List.set_cons_zero, List.set_cons_succ, i64_w, i32_w]
      rfl
     refine one_ (i := 2) (N := some 35) #[true, true, true, false, false] rfl rfl (by kernel_rfl) (by decide) (fun K hK => ?_)
     refine goes_ Try.func29 (by kernel_rfl) rfl #[.agg #[.slice A0_0 l0_0.length c0_0, .slice A0_1 l0_1.length c0_1]] (by rfl) rfl rfl gA ?_
     with_reducible refine (laws_toBase.calls k _ _ l0_0 _ _ l0_1 t471 t474 _ ?side1 ?side2 ?side3 ?side4 A51.out).mono ?_
     (case side1 => exact cB HR0_0)
     (case side2 => exact HC0_0.out)
     (case side3 => exact cB HR0_1)
     (case side4 => exact HC0_1.out)
     rintro e w80 ⟨v472, v475, rfl, ho0, ho1, hb⟩
     refine ⟨_, rfl, ?_⟩
     have n0_ := Aside0.mk (Kd.S_elder' (pS HO454) (Kd.S_base ho0) hb)
     have n1_ := Aside0.mk (Kd.R_elder' (pR HO457) (Kd.R_base ho1) hb)
     have n2_ := Aside0.mk (Kd.S_elder' (pS HO463) (Kd.S_base ho0) hb)
     have n3_ := Aside0.mk (Kd.R_elder' (pR HO466) (Kd.R_base ho1) hb)
     have n4_ := Aside0.mk (Kd.S_lower (Kd.S_new' (Kd.S_new' ho0 (Kd.S_lt (pS HO454))) (Kd.S_lt (pS HO463))) (below_size (w := w) bW))
     have n5_ := Aside0.mk (Kd.R_lower (Kd.R_new' (Kd.R_new' ho1 (Kd.R_lt (pR HO457))) (Kd.R_lt (pR HO466))) (below_size (w := w) bW))
     have n6_ := Aside0.mk (kb BK448 hb)
     have n7_ := Aside0.mk (kb BK449 hb)
     have n8_ := Aside0.mk (kb BK467 hb)
     have n9_ := Aside0.mk (below_step (w := w) bW hb)
     clear HO454
     clear HO457
     clear HO463
     clear HO466
     clear BK448
     clear BK449
     clear BK467
     clear HB
     have HO454 := n0_
     have HO457 := n1_
     have HO463 := n2_
     have HO466 := n3_
     have HO473 := n4_
     have HO476 := n5_
     have BK448 := n6_
     have BK449 := n7_
     have BK467 := n8_
     have HB := n9_
     clear n0_ n1_ n2_ n3_ n4_ n5_ n6_ n7_ n8_ n9_
     (try clear hb)
     (try clear hb2)
     (try clear hk)
     (try clear hi)
     (try clear ho0)
     (try clear ho1)
     obtain ⟨Ao81, co81, eo81⟩ := Kd.S_slice HO473.out
     (first | subst eo81 | (injection eo81 with f1_ f2_ f3_; have f4_ := f1_.symm; have f5_ := f3_.symm; clear f1_ f2_ f3_; subst f4_; subst f5_))
     obtain ⟨Ao82, co82, eo82⟩ := Kd.R_slice HO476.out
     (first | subst eo82 | (injection eo82 with f1_ f2_ f3_; have f4_ := f1_.symm; have f5_ := f3_.symm; clear f1_ f2_ f3_; subst f4_; subst f5_))
     refine hK.out _ _ ⟨(blk_cell BK467.out 0).trans rfl, (blk_cell BK467.out 1).trans rfl, (blk_cell BK448.out 0).trans rfl, (blk_cell BK448.out 1).trans rfl⟩ (fun hHeld => ?_)
     clear hK K
     refine norm_ (a' := ?_) ?_ ?_
     rotate_left
     ·show Act.put _ (some 35) _ = _
      simp only [Act.put, List.setIfInBounds_toArray, List.set_cons_zero, List.set_cons_succ, i64_w, i32_w]
      rfl
     refine one_ (i := 3) (N := some 36) #[true, true, true, true, false] rfl rfl (by kernel_rfl) (by decide) (fun K hK => ?_)
     refine goes_ Try.func22 (by kernel_rfl) rfl #[.agg #[.slice Ao70 t461.length co70, .slice Ao74 t464.length co74], .agg #[.slice Ao81 t471.length co81, .slice Ao82 t474.length co82]] (by rfl) rfl rfl gA ?_
     with_reducible refine (laws_eqBase.calls k _ _ t461 _ _ t464 _ _ t471 _ _ t474 true _ ?side1 ?side2 ?side3 ?side4 ?side5 ?side6 ?side7 ?side8 A52.out).mono ?_
     (case side1 => repeat (first | exact (Kd.S_reads' HO463.out).2.2 | (with_reducible refine Kd.C_alloc ?_ _) | (with_reducible refine Kd.C_drewN ?_ _) | (with_reducible refine Kd.C_drew ?_)))
     (case side2 => exact (Kd.S_reads' HO463.out).2.1)
     (case side3 => repeat (first | exact (Kd.R_reads' HO466.out).2.2 | (with_reducible refine Kd.C_alloc ?_ _) | (with_reducible refine Kd.C_drewN ?_ _) | (with_reducible refine Kd.C_drew ?_)))
     (case side4 => exact (Kd.R_reads' HO466.out).2.1)
     (case side5 => repeat (first | exact (Kd.S_reads' HO473.out).2.2 | (with_reducible refine Kd.C_alloc ?_ _) | (with_reducible refine Kd.C_drewN ?_ _) | (with_reducible refine Kd.C_drew ?_)))
     (case side6 => exact (Kd.S_reads' HO473.out).2.1)
     (case side7 => repeat (first | exact (Kd.R_reads' HO476.out).2.2 | (with_reducible refine Kd.C_alloc ?_ _) | (with_reducible refine Kd.C_drewN ?_ _) | (with_reducible refine Kd.C_drew ?_)))
     (case side8 => exact (Kd.R_reads' HO476.out).2.1)
     rintro e w83 ⟨rfl, hb⟩
     refine ⟨_, rfl, ?_⟩
     have n0_ := Aside0.mk (Kd.S_below (pS HO454) hb)
     have n1_ := Aside0.mk (Kd.R_below (pR HO457) hb)
     have n2_ := Aside0.mk (Kd.S_below (pS HO463) hb)
     have n3_ := Aside0.mk (Kd.R_below (pR HO466) hb)
     have n4_ := Aside0.mk (Kd.S_below (pS HO473) hb)
     have n5_ := Aside0.mk (Kd.R_below (pR HO476) hb)
     have n6_ := Aside0.mk (kb BK448 hb)
     have n7_ := Aside0.mk (kb BK449 hb)
     have n8_ := Aside0.mk (kb BK467 hb)
     have n9_ := Aside0.mk (below_step (w := w) bW hb)
     clear HO454
     clear HO457
     clear HO463
     clear HO466
     clear HO473
     clear HO476
     clear BK448
     clear BK449
     clear BK467
     clear HB
     have HO454 := n0_
     have HO457 := n1_
     have HO463 := n2_
     have HO466 := n3_
     have HO473 := n4_
     have HO476 := n5_
     have BK448 := n6_
     have BK449 := n7_
     have BK467 := n8_
     have HB := n9_
     clear n0_ n1_ n2_ n3_ n4_ n5_ n6_ n7_ n8_ n9_
     (try clear hb)
     (try clear hb2)
     (try clear hk)
     (try clear hi)
     refine hK.out _ _ ⟨(blk_cell BK467.out 0).trans rfl, (blk_cell BK467.out 1).trans rfl, (blk_cell BK448.out 0).trans rfl, (blk_cell BK448.out 1).trans rfl⟩ (fun hHeld => ?_)
     clear hK K
     refine norm_ (a' := ?_) ?_ ?_
     rotate_left
     ·show Act.put _ (some 36) _ = _
      simp only [Act.put, List.setIfInBounds_toArray, List.set_cons_zero, List.set_cons_succ, i64_w, i32_w]
      rfl
     refine pure_ (i := 4) (N := some 37) (v := ?_) (a' := ?_) #[true, true, true, true, true] rfl rfl (by kernel_rfl) (fun _ _ _ h => h) (Or.inl ⟨by rfl, ?_⟩) ?_ ?_
     rotate_left
     ·intro w'
      go_simp
      with_reducible rfl
     rotate_left
     ·simp only [Act.put, List.setIfInBounds_toArray, List.set_cons_zero, List.set_cons_succ, i64_w, i32_w]
      rfl
     refine done_ (by kernel_rfl) ?_
     try go_wp2
     go_ret
     exact ⟨rE, bW⟩
    ·replace c53 := Bool.eq_false_iff.mpr c53
     subst c53
     have H1 : (some false) = some true := by rw [if_neg (show ¬ (false = true) by decide)] at H; exact H
     exact absurd H1 (by simp)
end Go.Proofs.Ytekoaaiemmblgaa.Q
end
