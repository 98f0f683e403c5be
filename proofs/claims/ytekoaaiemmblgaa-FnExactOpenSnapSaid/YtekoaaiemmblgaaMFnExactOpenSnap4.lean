/- Parts of the proof of the law FnExactOpenSnap, joined into one text. -/
import Derived.Test.YtekoaaiemmblgaaMFnExactOpenSnap3
section
namespace Go.Proofs.Ytekoaaiemmblgaa.Q
open Go.RowKit Go.Proofs.YtekoaaiemmblgaaW.PrintWords Go.Proofs.YtekoaaiemmblgaaW.PrintLast Go.Proofs.YtekoaaiemmblgaaW.PrintMore
attribute [local go_sem] max2_int min2_int max_two min_two max_three min_three max_four min_four   -- for this text's walks alone
set_option linter.unusedVariables false
set_option linter.unusedSimpArgs false
attribute [local go_sem] bin_leq bin_gtr bin_geq
set_option maxHeartbeats 2000000 in
set_option maxRecDepth 100000 in
theorem hasF_Ref (g : Nat) (lb : Array Value) (eg : ∀ args w, (callFunc g args).run Try.prog w = .ok (.enter g args) w) (p : S92 → Bool) (A0 : Option Addr) (c0 : Nat) (l0 : List S92) (w : World) (hr0 : Kd.C k92 w A0 l0.length l0) (hc0 : l0.length ≤ c0) (hp : Asks_Ref g lb p w l0) :
    Calls Try.prog 112 #[.slice A0 l0.length c0, .func (.func g) #[] lb] w fun e w' => e = .returned (.bool (decide (0 ≤ idxI p l0))) ∧ Below w.heap.size w w' := by
  have HR0 := Aside0.mk hr0
  have HC0 := Aside0.mk hc0
  have HP := Aside0.mk hp
  have HE := Aside0.mk eg
  clear hr0 hc0 hp eg
  go_enter Try.func112, Try.ntmps112
  go_wp2_with (refine (idxF_Ref g lb HE.out p A0 c0 l0 _ HR0.out HC0.out HP.out).mono ?_; rintro e w' ⟨rfl, hb⟩)
  go_ret
  exact ⟨rfl, hb⟩
theorem notF_Ref (g : Nat) (lb : Array Value) (eg : ∀ args w, (callFunc g args).run Try.prog w = .ok (.enter g args) w) (p : S92 → Bool) (l : List S92) (w : World) (B : Nat) (hB : B < w.heap.size) (hc : w.cell? ⟨B, 0, none⟩ = some (.func (.func g) #[] lb)) (hp : Asks_Ref g lb p w l) :
    Asks_Ref 113 #[.pointer (some ⟨B, 0, none⟩)] (fun x => !p x) w l := by
  intro W x hW hx
  have hc' : W.cell? ⟨B, 0, none⟩ = some (.func (.func g) #[] lb) := (hW.cell (p := ⟨B, 0, none⟩) hB).trans hc
  have hB' : B < W.heap.size := Nat.lt_of_lt_of_le hB hW.size
  have HBX : Below W.heap.size W (W.alloc (.cells #[.string x.f0, .int .i64 x.f1, .int .i64 x.f2, .bool x.f3] 92)) := (Below.refl _ _).alloc (Nat.le_refl _) _
  have hcb : (W.alloc (.cells #[.string x.f0, .int .i64 x.f1, .int .i64 x.f2, .bool x.f3] 92)).cell? ⟨B, 0, none⟩ = some (.func (.func g) #[] lb) := (HBX.cell (p := ⟨B, 0, none⟩) hB').trans hc'
  have HC := Aside0.mk (hp _ x (below_then hW hW.size HBX) hx)
  have HBA := Aside0.mk HBX
  clear hp hx hc HBX
  go_enter Try.func113, Try.ntmps113
  go_wp2_with (refine HC.out.mono ?_; rintro e w' ⟨rfl, hb⟩)
  go_ret
  exact ⟨rfl, below_then HBA.out HBA.out.size hb⟩
set_option maxHeartbeats 2000000 in
set_option maxRecDepth 100000 in
theorem allF_Ref (g : Nat) (lb : Array Value) (eg : ∀ args w, (callFunc g args).run Try.prog w = .ok (.enter g args) w) (p : S92 → Bool) (A0 : Option Addr) (c0 : Nat) (l0 : List S92) (w : World) (hr0 : Kd.C k92 w A0 l0.length l0) (hc0 : l0.length ≤ c0) (hp : Asks_Ref g lb p w l0) :
    Calls Try.prog 76 #[.slice A0 l0.length c0, .func (.func g) #[] lb] w fun e w' => e = .returned (.bool (l0.all p)) ∧ Below w.heap.size w w' := by
  have e94 := idxI_all p l0
  have HN := Aside0.mk e94
  have HB0 : Below w.heap.size w (w.alloc (.cells #[.func (.func g) #[] lb] 101)) := (Below.refl _ _).alloc (Nat.le_refl _) _
  have HR0 := Aside0.mk (Kd.C_below hr0 HB0)
  have HP := Aside0.mk (notF_Ref g lb eg p l0 (w.alloc (.cells #[.func (.func g) #[] lb] 101)) w.heap.size (by simp) (by simp) (fun W x hW hx => hp W x (below_then HB0 HB0.size hW) hx))
  have HC0 := Aside0.mk hc0
  have HBA := Aside0.mk HB0
  clear hr0 hc0 hp eg e94 HB0
  go_enter Try.func76, Try.ntmps76
  go_wp2_with (refine (hasF_Ref 113 #[.pointer (some ⟨w.heap.size, 0, none⟩)] (enters_ Try.func113 (by kernel_rfl) rfl) (fun x => !p x) A0 c0 l0 _ HR0.out HC0.out HP.out).mono ?_; rintro e w' ⟨rfl, hb⟩)
  go_ret
  refine ⟨?_, below_then HBA.out HBA.out.size hb⟩
  show Ending.returned (.bool (!decide (0 ≤ idxI (fun x => !p x) l0))) = _
  rw [HN.out]
end Go.Proofs.Ytekoaaiemmblgaa.Q
end

section
namespace Go.Proofs.Ytekoaaiemmblgaa.Q
open Go.RowKit Go.Proofs.YtekoaaiemmblgaaW.PrintWords Go.Proofs.YtekoaaiemmblgaaW.PrintLast Go.Proofs.YtekoaaiemmblgaaW.PrintMore
attribute [local go_sem] max2_int min2_int max_two min_two max_three min_three max_four min_four   -- for this text's walks alone
set_option linter.unusedVariables false
set_option linter.unusedSimpArgs false
attribute [local go_sem] bin_leq bin_gtr bin_geq
theorem isHead_f (n : Int) : impl_isHead.f n = some (inB n 1 60) := by
  unfold impl_isHead.f impl_within.f inB
  by_cases h : 1 ≤ n <;> simp [h]
theorem isRef_f (x : S92) : impl_isRef.f x.f0 x.f1 x.f2 x.f3 = some (refB x) := by
  unfold impl_isRef.f impl_NameOK.f impl_within.f refB inB
  simp only [Option.bind_some, isHead_f]
  cases h0 : nameB x.f0
  · simp
  · by_cases h1 : 1 ≤ x.f2 <;> by_cases h2 : x.f2 ≤ 1000000 <;> cases h3 : x.f3 <;> by_cases h4 : x.f1 = 0 <;> simp [h1, h2, h4, inB]
def areAllRef_isRef.f (l0 : List (S92)) : Option (Bool) := some (l0.all refB)
theorem areAllRef_isRef.calls (A0 : Option Addr) (c0 : Nat) (l0 : List (S92)) (r : Bool) (w : World) (hr0 : Kd.C k92 w A0 l0.length l0) (hc0 : l0.length ≤ c0) (h : areAllRef_isRef.f l0 = some r) :
    Calls Try.prog 76 #[.slice A0 l0.length c0, .func (.func 110) #[] #[]] w fun e w' => e = .returned (.bool r) ∧ Below w.heap.size w w' := by
  obtain rfl := Option.some.inj h
  refine allF_Ref 110 #[] (enters_ Try.func110 (by kernel_rfl) rfl) refB A0 c0 l0 w hr0 hc0 ?_
  intro W x hW hx
  exact impl_isRef.calls x.f0 x.f1 x.f2 x.f3 (refB x) W (isRef_f x)
end Go.Proofs.Ytekoaaiemmblgaa.Q
end

section
namespace Go.Proofs.Ytekoaaiemmblgaa.Q
open Go.RowKit Go.Proofs.YtekoaaiemmblgaaW.PrintWords Go.Proofs.YtekoaaiemmblgaaW.PrintLast Go.Proofs.YtekoaaiemmblgaaW.PrintMore
attribute [local go_sem] max2_int min2_int max_two min_two max_three min_three max_four min_four   -- for this text's walks alone
set_option linter.unusedVariables false
set_option linter.unusedSimpArgs false
attribute [local go_sem] bin_leq bin_gtr bin_geq
mutual
def impl_RefsOK.j0 : Nat → List (S92) → Bool → Option (Bool)
 | 0, _, _ => none
 | k + 1, x0, x12 => if x12 = true then (some false) else (impl_RefsOK.l0 k x0 x0 (x0.length : Int) 0)
def impl_RefsOK.l0 : Nat → List (S92) → List (S92) → Int → Int → Option (Bool)
 | 0, _, _, _, _ => none
 | k + 1, x0, x13, x14, x15 => if x15 < x14 then (if 0 ≤ x15 then (if x15 < (x13.length : Int) then (if x15 ≤ (x0.length : Int) then ((impl_place.f (x0.take (x15 : Int).toNat) ((rd_T92 x13 x15).f0)).bind fun t402 => (if t402 ≥ 0 then (some false) else (impl_RefsOK.l0 k x0 x13 x14 (wrap64 (x15 + 1))))) else (none)) else (none)) else (none)) else (some true)
end
def impl_RefsOK.f (k : Nat) (l0 : List (S92)) : Option (Bool) := if (l0.length : Int) > 8 then (impl_RefsOK.j0 k l0 true) else ((areAllRef_isRef.f l0).bind fun t395 => (impl_RefsOK.j0 k l0 (!t395)))
set_option maxHeartbeats 8000000 in
set_option maxRecDepth 100000 in
theorem impl_RefsOK.calls (k : Nat) (A0 : Option Addr) (c0 : Nat) (l0 : List (S92)) (r : Bool) (w : World) (hr0 : Kd.C k92 w A0 l0.length l0) (hc0 : l0.length ≤ c0) (h : impl_RefsOK.f k l0 = some r) :
  Calls Try.prog 75 #[.slice A0 l0.length c0] w fun e w' => e = .returned (.bool r) ∧ Below w.heap.size w w' := by
 have hu92 := Try.underlying92
 have HR0 := Aside0.mk hr0
 have HC0 := Aside0.mk hc0
 clear hr0 hc0
 have HB := Aside0.mk (Below.refl w.heap.size w)
 have H : (if (l0.length : Int) > 8 then (impl_RefsOK.j0 k l0 true) else ((areAllRef_isRef.f l0).bind fun t395 => (impl_RefsOK.j0 k l0 (!t395)))) = some r := h
 clear h
 have HC2 := Aside0.mk H
 clear H
 go_enter Try.func75, Try.ntmps75
 go_upto_region 1 with (fail)
 go_cut [12] (fun v12 wc => ∃ (kq : Nat) (x12_1 : Bool), v12 = .bool x12_1 ∧ Aside0 (impl_RefsOK.j0 kq l0 x12_1 = some r) ∧ Aside0 (kq ≤ k) ∧ Aside0 (Below w.heap.size w wc))
 case first =>
  have H := HC2.out
  clear HC2
  by_cases c3 : (l0.length : Int) > 8
  ·rw [if_pos c3] at H
   have c3b0 : decide (8 < (l0.length : Int)) = true := decide_eq_true c3
   have c3b1 : decide (8 < l0.length) = true := decide_eq_true (by omega)
   clear c3
   (first | rw [c3b0] | (simp only [i64_w, i32_w]; rw [c3b0]) | skip)
   have H' := Aside0.mk H
   clear H
   go_wp2
   go_meet
   case rel => exact ⟨_, (true), vE, H', ⟨by first | omega | exact Nat.le_refl _⟩, ⟨bW⟩⟩
  ·rw [if_neg c3] at H
   have c3b0 : decide (8 < (l0.length : Int)) = false := decide_eq_false c3
   have c3b1 : decide (8 < l0.length) = false := decide_eq_false (by omega)
   clear c3
   (first | rw [c3b0] | (simp only [i64_w, i32_w]; rw [c3b0]) | skip)
   replace H := Option.bind_eq_some_iff.mp H
   obtain ⟨t395, A40, H⟩ := H
   replace H : (impl_RefsOK.j0 k l0 (!t395)) = some r := H
   have A4 := Aside0.mk A40
   clear A40
   have H' := Aside0.mk H
   clear H
   go_wp2_with (first | (go_at_call 76; (with_reducible refine (areAllRef_isRef.calls _ _ l0 t395 _ ?side1 ?side2 A4.out).mono ?_); (case side1 => exact cB HR0); (case side2 => exact HC0.out); rintro e w5 ⟨rfl, hb⟩; have n0_ := Aside0.mk (below_step (w := w) bW hb); clear HB; have HB := n0_; clear n0_; (try clear hb); (try clear hb2); (try clear hk); (try clear hi)))
   go_meet
   case rel => exact ⟨_, (!t395), vE, H', ⟨by first | omega | exact Nat.le_refl _⟩, ⟨bW⟩⟩
 case rest =>
  clear HC2
  try clear p2
  try clear c3
  try clear c3b0
  try clear c3b1
  obtain ⟨kq, x12_1, rfl, HA, HJ1, HB⟩ := hcut
  cases kq with
  | zero => exact absurd HA.out (by simp [impl_RefsOK.j0])
  | succ kj1 =>
   have H := HA.out
   clear HA
   simp only [impl_RefsOK.j0] at H
   by_cases c6 : x12_1 = true
   ·subst c6
    have H1 : (some false) = some r := by rw [if_pos rfl] at H; exact H
    clear H
    have H := H1
    clear H1
    obtain rfl := Option.some.inj H
    go_wp2
    go_ret
    exact ⟨rE, bW⟩
   ·replace c6 := Bool.eq_false_iff.mpr c6
    subst c6
    have H1 : (impl_RefsOK.l0 kj1 l0 l0 (l0.length : Int) 0) = some r := by rw [if_neg (show ¬ (false = true) by decide)] at H; exact H
    clear H
    have H := H1
    clear H1
    have H' := Aside0.mk H
    clear H
    go_wp2
    go_loopg [15] kj1 (fun kq v15 w' => ∃ (x15_2 : Int), v15 = .int .i64 x15_2 ∧ Aside0 (impl_RefsOK.l0 kq l0 l0 (l0.length : Int) x15_2 = some r) ∧ Aside0 (kq ≤ kj1) ∧ Aside0 (Below w.heap.size w w'))
    case atStart => exact ⟨(0), vE, H', ⟨Nat.le_refl _⟩, ⟨bW⟩⟩
    case round =>
     clear H'
     try clear p2
     try clear c3
     try clear c3b0
     try clear c3b1
     try clear c6
     try clear p2
     obtain ⟨x15_2, rfl, HA, HK2, HB⟩ := hrel
     cases gk with
     | zero => exact absurd HA.out (by simp [impl_RefsOK.l0])
     | succ k2 =>
      have H := HA.out
      clear HA
      simp only [impl_RefsOK.l0] at H
      by_cases c7 : x15_2 < (l0.length : Int)
      ·rw [if_pos c7] at H
       have c7b0 : decide (x15_2 < (l0.length : Int)) = true := decide_eq_true c7
       clear c7
       by_cases c8 : 0 ≤ x15_2
       ·rw [if_pos c8] at H
        have c8b0 : decide (0 ≤ x15_2) = true := decide_eq_true c8
        clear c8
        by_cases c9 : x15_2 < (l0.length : Int)
        ·rw [if_pos c9] at H
         have c9b0 : decide (x15_2 < (l0.length : Int)) = true := decide_eq_true c9
         clear c9
         have c10b0 := eq_true (odt : 0 ≤ x15_2)
         by_cases c11 : x15_2 ≤ (l0.length : Int)
         ·rw [if_pos c11] at H
          have c11b0 := eq_true c11
          have c11b1 : decide (x15_2 ≤ (l0.length : Int)) = true := decide_eq_true c11
          clear c11
          obtain ⟨y398, hy398⟩ : ∃ y_ : List (S92), y_ = (l0.take (x15_2 : Int).toNat) := ⟨_, rfl⟩
          replace H : ((impl_place.f y398 ((rd_T92 l0 x15_2).f0)).bind fun t402 => (if t402 ≥ 0 then (some false) else (impl_RefsOK.l0 k2 l0 l0 (l0.length : Int) (wrap64 (x15_2 + 1))))) = some r := by first | (rw [hy398]; with_reducible exact H) | (have H2_ := (Option.bind_some _ _).symm.trans H; rw [hy398]; with_reducible exact H2_) | (have H2_ := (Option.bind_some _ _).symm.trans H; with_reducible exact H2_) | with_reducible exact H | (rw [hy398]; exact H) | exact H
          have Ny398 := Aside0.mk hy398
          clear hy398
          replace H := Option.bind_eq_some_iff.mp H
          obtain ⟨t402, A120, H⟩ := H
          replace H : (if t402 ≥ 0 then (some false) else (impl_RefsOK.l0 k2 l0 l0 (l0.length : Int) (wrap64 (x15_2 + 1)))) = some r := H
          have A12 := Aside0.mk A120
          clear A120
          by_cases c13 : t402 ≥ 0
          ·rw [if_pos c13] at H
           have c13b0 : decide (0 ≤ t402) = true := decide_eq_true c13
           clear c13
           obtain rfl := Option.some.inj H
           have p396 : 0 ≤ (x15_2 : Int) := odt
           have q396 : x15_2 < (l0.length : Int) := odt
           obtain ⟨ad396, e396, hx396_0, hx396_1, hx396_2, hx396_3⟩ := at_T92 HR0.out x15_2 p396 q396
           cases e396
           replace hx396_0 := (HB.out.cell (World.block_lt_of_cell? w _ hx396_0)).trans hx396_0
           replace hx396_1 := (HB.out.cell (World.block_lt_of_cell? w _ hx396_1)).trans hx396_1
           replace hx396_2 := (HB.out.cell (World.block_lt_of_cell? w _ hx396_2)).trans hx396_2
           replace hx396_3 := (HB.out.cell (World.block_lt_of_cell? w _ hx396_3)).trans hx396_3
           replace p396 := eq_true p396
           replace q396 := eq_true q396
           try go_wp2_with (first | ((with_reducible refine gate_dst (N := 4) rfl ?_); refine bE (N := 4) (cs := #[.string (⟨#[]⟩ : ByteArray), .int .i64 0, .int .i64 0, .bool false]) (t := 92) ?_; intro gb397 hg w14 hbox hb; have n0_ := Aside0.mk (below_step (w := w) bW hb); have n1_ := Aside0.mk (hbox); have n2_ := Aside0.mk (gS (w := w) hg); have n3_ := n2_; clear HB; have HB := n0_; have BK397 := n1_; have GW397 := n2_; have GE397 := n3_; clear n0_ n1_ n2_ n3_; clear hb hbox hg; obtain ⟨hcz15_0, hcz15_1, hcz15_2, hcz15_3⟩ := cz4 BK397; obtain ⟨hfz15_0, hfz15_1, hfz15_2, hfz15_3⟩ := fz4 BK397))
           have n0_ : Aside0 (((((w14.setCell ⟨gb397, 0, none⟩ (.string ((rd_T92 l0 x15_2).f0))).setCell ⟨gb397, 1, none⟩ (.int .i64 ((rd_T92 l0 x15_2).f1))).setCell ⟨gb397, 2, none⟩ (.int .i64 ((rd_T92 l0 x15_2).f2))).setCell ⟨gb397, 3, none⟩ (.bool ((rd_T92 l0 x15_2).f3))).heap[gb397]? = some (.cells #[.string ((rd_T92 l0 x15_2).f0), .int .i64 ((rd_T92 l0 x15_2).f1), .int .i64 ((rd_T92 l0 x15_2).f2), .bool ((rd_T92 l0 x15_2).f3)] 92 (0, 0))) := ⟨by (with_reducible repeat (first | refine blk_drewN ?_ _ | refine blk_drew ?_ | refine blk_alloc ?_ _)); refine blk_put (cs := #[.string ((rd_T92 l0 x15_2).f0), .int .i64 ((rd_T92 l0 x15_2).f1), .int .i64 ((rd_T92 l0 x15_2).f2), .bool false]) ?_ 3 _ rfl; (with_reducible repeat (first | refine blk_drewN ?_ _ | refine blk_drew ?_ | refine blk_alloc ?_ _)); refine blk_put (cs := #[.string ((rd_T92 l0 x15_2).f0), .int .i64 ((rd_T92 l0 x15_2).f1), .int .i64 0, .bool false]) ?_ 2 _ rfl; (with_reducible repeat (first | refine blk_drewN ?_ _ | refine blk_drew ?_ | refine blk_alloc ?_ _)); refine blk_put (cs := #[.string ((rd_T92 l0 x15_2).f0), .int .i64 0, .int .i64 0, .bool false]) ?_ 1 _ rfl; (with_reducible repeat (first | refine blk_drewN ?_ _ | refine blk_drew ?_ | refine blk_alloc ?_ _)); refine blk_put (cs := #[.string (⟨#[]⟩ : ByteArray), .int .i64 0, .int .i64 0, .bool false]) ?_ 0 _ rfl; (with_reducible repeat (first | refine blk_drewN ?_ _ | refine blk_drew ?_ | refine blk_alloc ?_ _)); exact BK397.out⟩
           have n1_ : Aside0 (Below w.heap.size w ((((w14.setCell ⟨gb397, 0, none⟩ (.string ((rd_T92 l0 x15_2).f0))).setCell ⟨gb397, 1, none⟩ (.int .i64 ((rd_T92 l0 x15_2).f1))).setCell ⟨gb397, 2, none⟩ (.int .i64 ((rd_T92 l0 x15_2).f2))).setCell ⟨gb397, 3, none⟩ (.bool ((rd_T92 l0 x15_2).f3)))) := ⟨bW⟩
           (try clear BK397)
           (try clear HB)
           generalize ((((w14.setCell ⟨gb397, 0, none⟩ (.string ((rd_T92 l0 x15_2).f0))).setCell ⟨gb397, 1, none⟩ (.int .i64 ((rd_T92 l0 x15_2).f1))).setCell ⟨gb397, 2, none⟩ (.int .i64 ((rd_T92 l0 x15_2).f2))).setCell ⟨gb397, 3, none⟩ (.bool ((rd_T92 l0 x15_2).f3))) = w16 at n0_ n1_ ⊢
           have BK397 := n0_
           have HB := n1_
           clear n0_ n1_
           have n0_ := Aside0.mk (blk_drew BK397.out)
           have n1_ := Aside0.mk (below_drew1 HB.out)
           clear BK397
           clear HB
           have BK397 := n0_
           have HB := n1_
           clear n0_ n1_
           have q18 : (x15_2 : Int) ≤ ((l0.length : Int) : Int) := odt
           obtain ⟨i018, hi018, _, hsz18, _⟩ := info_parts info92
           have hroom18 : l0.length ≤ c0 := HC0.out
           have hC18 : Kd.C k92 _ (some ad396) l0.length l0 := HR0.out
           have hcut18 := cut_to (P := Try.prog) 30 92 .i64 Try.underlying30 hi018 (some ad396) l0.length c0 x15_2 (odt) q18 hroom18
           have hr18 := Kd.C_take (m := (x15_2 : Int).toNat) hC18 (by omega)
           have hy18 : y398.length = (x15_2 : Int).toNat := (by rw [Ny398.out, List.length_take]; omega)
           rw [← Ny398.out] at hr18
           rw [← hy18] at hcut18
           have HR401 := Aside0.mk hr18
           have HC401 := Aside0.mk (show y398.length ≤ c0 from by omega)
           clear hr18 hC18 hroom18 hi018 hsz18
           have KY18 := Aside0.mk hy18
           clear hy18
           replace q18 := eq_true q18
           refine start_ (n := 7) (S := fun w' => w'.cell? ⟨gb397, 0, none⟩ = some (.string ((rd_T92 l0 x15_2).f0)) ∧ w'.cell? ⟨gb397, 1, none⟩ = some (.int .i64 ((rd_T92 l0 x15_2).f1)) ∧ w'.cell? ⟨gb397, 2, none⟩ = some (.int .i64 ((rd_T92 l0 x15_2).f2)) ∧ w'.cell? ⟨gb397, 3, none⟩ = some (.bool ((rd_T92 l0 x15_2).f3))) (ds := []) #[false, false, false, false, false, false, false] (by kernel_rfl) rfl rfl ⟨(blk_cell BK397.out 0).trans rfl, (blk_cell BK397.out 1).trans rfl, (blk_cell BK397.out 2).trans rfl, (blk_cell BK397.out 3).trans rfl⟩ (fun hHeld => ?_)
           generalize w16.drew = w17 at BK397 HB HR401 hHeld ⊢
           refine pure_ (i := 0) (N := some 20) (v := ?_) (a' := ?_) #[true, false, false, false, false, false, false] rfl rfl (by kernel_rfl) (fun _ _ _ h => h) (Or.inl ⟨by rfl, ?_⟩) ?_ ?_
           rotate_left
           ·intro w'
            go_simp
            with_reducible rfl
           rotate_left
           ·simp only [Act.put, List.setIfInBounds_toArray, List.set_cons_zero, List.set_cons_succ, i64_w, i32_w]
            rfl
           refine pure_ (i := 1) (N := some 21) (v := ?_) (a' := ?_) #[true, true, false, false, false, false, false] rfl rfl (by kernel_rfl) (fun _ _ _ h => h) (Or.inl ⟨by rfl, ?_⟩) ?_ ?_
           rotate_left
           ·intro w'
            go_simp
            with_reducible rfl
           rotate_left
           ·simp only [Act.put, List.setIfInBounds_toArray, List.set_cons_zero, List.set_cons_succ, i64_w, i32_w]
            rfl
           refine pure_ (i := 2) (N := some 22) (v := ?_) (a' := ?_) #[true, true, true, false, false, false, false] rfl rfl (by kernel_rfl) (fun _ _ _ h => h) (Or.inl ⟨by rfl, ?_⟩) ?_ ?_
           rotate_left
           ·intro w'
            go_simp
            with_reducible rfl
           rotate_left
           ·simp only [Act.put, List.setIfInBounds_toArray, List.set_cons_zero, List.set_cons_succ, i64_w, i32_w]
            rfl
           refine pure_ (i := 3) (N := some 23) (v := ?_) (a' := ?_) #[true, true, true, true, false, false, false] rfl rfl (by kernel_rfl) (fun _ _ _ h => h) (Or.inl ⟨by rfl, ?_⟩) ?_ ?_
           rotate_left
           ·intro w'
            go_simp
            with_reducible rfl
           rotate_left
           ·simp only [Act.put, List.setIfInBounds_toArray, List.set_cons_zero, List.set_cons_succ, i64_w, i32_w]
            rfl
           refine take_ (i := 4) (N := some 24) (v := ?_) (a' := ?_) #[true, true, true, true, true, false, false] rfl rfl (by kernel_rfl) (fun _ _ _ h => h) (Or.inl ⟨by rfl, ?_⟩) hHeld ?_ ?_
           rotate_left
           ·rintro w' ⟨s0, s1, s2, s3⟩
            go_simp
            with_reducible rfl
           rotate_left
           ·simp only [Act.put, List.setIfInBounds_toArray, List.set_cons_zero, List.set_cons_succ, i64_w, i32_w]
            rfl
           refine one_ (i := 5) (N := some 25) #[true, true, true, true, true, true, false] rfl rfl (by kernel_rfl) (by decide) (fun K hK => ?_)
           refine goes_ Try.func111 (by kernel_rfl) rfl #[.slice (some ad396) y398.length c0, .string ((rd_T92 l0 x15_2).f0)] (by rfl) rfl rfl gA ?_
           with_reducible refine (impl_place.calls _ _ y398 ((rd_T92 l0 x15_2).f0) t402 _ ?side1 ?side2 A12.out).mono ?_
           (case side1 => exact cB HR401)
           (case side2 => exact HC401.out)
           rintro e w19 ⟨rfl, hb⟩
           refine ⟨_, rfl, ?_⟩
           have n0_ := Aside0.mk (kb BK397 hb)
           have n1_ := Aside0.mk (below_step (w := w) bW hb)
           clear BK397
           clear HB
           have BK397 := n0_
           have HB := n1_
           clear n0_ n1_
           (try clear hb)
           (try clear hb2)
           (try clear hk)
           (try clear hi)
           refine hK.out _ _ ⟨(blk_cell BK397.out 0).trans rfl, (blk_cell BK397.out 1).trans rfl, (blk_cell BK397.out 2).trans rfl, (blk_cell BK397.out 3).trans rfl⟩ (fun hHeld => ?_)
           clear hK K
           refine norm_ (a' := ?_) ?_ ?_
           rotate_left
           ·show Act.put _ (some 25) _ = _
            simp only [Act.put, List.setIfInBounds_toArray, List.set_cons_zero, List.set_cons_succ, i64_w, i32_w]
            rfl
           refine pure_ (i := 6) (N := some 26) (v := ?_) (a' := ?_) #[true, true, true, true, true, true, true] rfl rfl (by kernel_rfl) (fun _ _ _ h => h) (Or.inl ⟨by rfl, ?_⟩) ?_ ?_
           rotate_left
           ·intro w'
            go_simp
            with_reducible rfl
           rotate_left
           ·simp only [Act.put, List.setIfInBounds_toArray, List.set_cons_zero, List.set_cons_succ, i64_w, i32_w]
            rfl
           refine done_ (by kernel_rfl) ?_
           try go_wp2
           go_ret
           exact ⟨rE, bW⟩
          ·rw [if_neg c13] at H
           have c13b0 : decide (0 ≤ t402) = false := decide_eq_false c13
           clear c13
           have H' := Aside0.mk H
           clear H
           have p396 : 0 ≤ (x15_2 : Int) := odt
           have q396 : x15_2 < (l0.length : Int) := odt
           obtain ⟨ad396, e396, hx396_0, hx396_1, hx396_2, hx396_3⟩ := at_T92 HR0.out x15_2 p396 q396
           cases e396
           replace hx396_0 := (HB.out.cell (World.block_lt_of_cell? w _ hx396_0)).trans hx396_0
           replace hx396_1 := (HB.out.cell (World.block_lt_of_cell? w _ hx396_1)).trans hx396_1
           replace hx396_2 := (HB.out.cell (World.block_lt_of_cell? w _ hx396_2)).trans hx396_2
           replace hx396_3 := (HB.out.cell (World.block_lt_of_cell? w _ hx396_3)).trans hx396_3
           replace p396 := eq_true p396
           replace q396 := eq_true q396
           try go_wp2_with (first | ((with_reducible refine gate_dst (N := 4) rfl ?_); refine bE (N := 4) (cs := #[.string (⟨#[]⟩ : ByteArray), .int .i64 0, .int .i64 0, .bool false]) (t := 92) ?_; intro gb397 hg w20 hbox hb; have n0_ := Aside0.mk (below_step (w := w) bW hb); have n1_ := Aside0.mk (hbox); have n2_ := Aside0.mk (gS (w := w) hg); have n3_ := n2_; clear HB; have HB := n0_; have BK397 := n1_; have GW397 := n2_; have GE397 := n3_; clear n0_ n1_ n2_ n3_; clear hb hbox hg; obtain ⟨hcz21_0, hcz21_1, hcz21_2, hcz21_3⟩ := cz4 BK397; obtain ⟨hfz21_0, hfz21_1, hfz21_2, hfz21_3⟩ := fz4 BK397))
           have n0_ : Aside0 (((((w20.setCell ⟨gb397, 0, none⟩ (.string ((rd_T92 l0 x15_2).f0))).setCell ⟨gb397, 1, none⟩ (.int .i64 ((rd_T92 l0 x15_2).f1))).setCell ⟨gb397, 2, none⟩ (.int .i64 ((rd_T92 l0 x15_2).f2))).setCell ⟨gb397, 3, none⟩ (.bool ((rd_T92 l0 x15_2).f3))).heap[gb397]? = some (.cells #[.string ((rd_T92 l0 x15_2).f0), .int .i64 ((rd_T92 l0 x15_2).f1), .int .i64 ((rd_T92 l0 x15_2).f2), .bool ((rd_T92 l0 x15_2).f3)] 92 (0, 0))) := ⟨by (with_reducible repeat (first | refine blk_drewN ?_ _ | refine blk_drew ?_ | refine blk_alloc ?_ _)); refine blk_put (cs := #[.string ((rd_T92 l0 x15_2).f0), .int .i64 ((rd_T92 l0 x15_2).f1), .int .i64 ((rd_T92 l0 x15_2).f2), .bool false]) ?_ 3 _ rfl; (with_reducible repeat (first | refine blk_drewN ?_ _ | refine blk_drew ?_ | refine blk_alloc ?_ _)); refine blk_put (cs := #[.string ((rd_T92 l0 x15_2).f0), .int .i64 ((rd_T92 l0 x15_2).f1), .int .i64 0, .bool false]) ?_ 2 _ rfl; (with_reducible repeat (first | refine blk_drewN ?_ _ | refine blk_drew ?_ | refine blk_alloc ?_ _)); refine blk_put (cs := #[.string ((rd_T92 l0 x15_2).f0), .int .i64 0, .int .i64 0, .bool false]) ?_ 1 _ rfl; (with_reducible repeat (first | refine blk_drewN ?_ _ | refine blk_drew ?_ | refine blk_alloc ?_ _)); refine blk_put (cs := #[.string (⟨#[]⟩ : ByteArray), .int .i64 0, .int .i64 0, .bool false]) ?_ 0 _ rfl; (with_reducible repeat (first | refine blk_drewN ?_ _ | refine blk_drew ?_ | refine blk_alloc ?_ _)); exact BK397.out⟩
           have n1_ : Aside0 (Below w.heap.size w ((((w20.setCell ⟨gb397, 0, none⟩ (.string ((rd_T92 l0 x15_2).f0))).setCell ⟨gb397, 1, none⟩ (.int .i64 ((rd_T92 l0 x15_2).f1))).setCell ⟨gb397, 2, none⟩ (.int .i64 ((rd_T92 l0 x15_2).f2))).setCell ⟨gb397, 3, none⟩ (.bool ((rd_T92 l0 x15_2).f3)))) := ⟨bW⟩
           (try clear BK397)
           (try clear HB)
           generalize ((((w20.setCell ⟨gb397, 0, none⟩ (.string ((rd_T92 l0 x15_2).f0))).setCell ⟨gb397, 1, none⟩ (.int .i64 ((rd_T92 l0 x15_2).f1))).setCell ⟨gb397, 2, none⟩ (.int .i64 ((rd_T92 l0 x15_2).f2))).setCell ⟨gb397, 3, none⟩ (.bool ((rd_T92 l0 x15_2).f3))) = w22 at n0_ n1_ ⊢
           have BK397 := n0_
           have HB := n1_
           clear n0_ n1_
           have n0_ := Aside0.mk (blk_drew BK397.out)
           have n1_ := Aside0.mk (below_drew1 HB.out)
           clear BK397
           clear HB
           have BK397 := n0_
           have HB := n1_
           clear n0_ n1_
           have q24 : (x15_2 : Int) ≤ ((l0.length : Int) : Int) := odt
           obtain ⟨i024, hi024, _, hsz24, _⟩ := info_parts info92
           have hroom24 : l0.length ≤ c0 := HC0.out
           have hC24 : Kd.C k92 _ (some ad396) l0.length l0 := HR0.out
           have hcut24 := cut_to (P := Try.prog) 30 92 .i64 Try.underlying30 hi024 (some ad396) l0.length c0 x15_2 (odt) q24 hroom24
           have hr24 := Kd.C_take (m := (x15_2 : Int).toNat) hC24 (by omega)
           have hy24 : y398.length = (x15_2 : Int).toNat := (by rw [Ny398.out, List.length_take]; omega)
           rw [← Ny398.out] at hr24
           rw [← hy24] at hcut24
           have HR401 := Aside0.mk hr24
           have HC401 := Aside0.mk (show y398.length ≤ c0 from by omega)
           clear hr24 hC24 hroom24 hi024 hsz24
           have KY24 := Aside0.mk hy24
           clear hy24
           replace q24 := eq_true q24
           refine start_ (n := 7) (S := fun w' => w'.cell? ⟨gb397, 0, none⟩ = some (.string ((rd_T92 l0 x15_2).f0)) ∧ w'.cell? ⟨gb397, 1, none⟩ = some (.int .i64 ((rd_T92 l0 x15_2).f1)) ∧ w'.cell? ⟨gb397, 2, none⟩ = some (.int .i64 ((rd_T92 l0 x15_2).f2)) ∧ w'.cell? ⟨gb397, 3, none⟩ = some (.bool ((rd_T92 l0 x15_2).f3))) (ds := []) #[false, false, false, false, false, false, false] (by kernel_rfl) rfl rfl ⟨(blk_cell BK397.out 0).trans rfl, (blk_cell BK397.out 1).trans rfl, (blk_cell BK397.out 2).trans rfl, (blk_cell BK397.out 3).trans rfl⟩ (fun hHeld => ?_)
           generalize w22.drew = w23 at BK397 HB HR401 hHeld ⊢
           refine pure_ (i := 0) (N := some 20) (v := ?_) (a' := ?_) #[true, false, false, false, false, false, false] rfl rfl (by kernel_rfl) (fun _ _ _ h => h) (Or.inl ⟨by rfl, ?_⟩) ?_ ?_
           rotate_left
           ·intro w'
            go_simp
            with_reducible rfl
           rotate_left
           ·simp only [Act.put, List.setIfInBounds_toArray, List.set_cons_zero, List.set_cons_succ, i64_w, i32_w]
            rfl
           refine pure_ (i := 1) (N := some 21) (v := ?_) (a' := ?_) #[true, true, false, false, false, false, false] rfl rfl (by kernel_rfl) (fun _ _ _ h => h) (Or.inl ⟨by rfl, ?_⟩) ?_ ?_
           rotate_left
           ·intro w'
            go_simp
            with_reducible rfl
           rotate_left
           ·simp only [Act.put, List.setIfInBounds_toArray, List.set_cons_zero, List.set_cons_succ, i64_w, i32_w]
            rfl
           refine pure_ (i := 2) (N := some 22) (v := ?_) (a' := ?_) #[true, true, true, false, false, false, false] rfl rfl (by kernel_rfl) (fun _ _ _ h => h) (Or.inl ⟨by rfl, ?_⟩) ?_ ?_
           rotate_left
           ·intro w'
            go_simp
            with_reducible rfl
           rotate_left
           ·simp only [Act.put, List.setIfInBounds_toArray, List.set_cons_zero, List.set_cons_succ, i64_w, i32_w]
            rfl
           refine pure_ (i := 3) (N := some 23) (v := ?_) (a' := ?_) #[true, true, true, true, false, false, false] rfl rfl (by kernel_rfl) (fun _ _ _ h => h) (Or.inl ⟨by rfl, ?_⟩) ?_ ?_
           rotate_left
           ·intro w'
            go_simp
            with_reducible rfl
           rotate_left
           ·simp only [Act.put, List.setIfInBounds_toArray, List.set_cons_zero, List.set_cons_succ, i64_w, i32_w]
            rfl
           refine take_ (i := 4) (N := some 24) (v := ?_) (a' := ?_) #[true, true, true, true, true, false, false] rfl rfl (by kernel_rfl) (fun _ _ _ h => h) (Or.inl ⟨by rfl, ?_⟩) hHeld ?_ ?_
           rotate_left
           ·rintro w' ⟨s0, s1, s2, s3⟩
            go_simp
            with_reducible rfl
           rotate_left
           ·simp only [Act.put, List.setIfInBounds_toArray, List.set_cons_zero, List.set_cons_succ, i64_w, i32_w]
            rfl
           refine one_ (i := 5) (N := some 25) #[true, true, true, true, true, true, false] rfl rfl (by kernel_rfl) (by decide) (fun K hK => ?_)
           refine goes_ Try.func111 (by kernel_rfl) rfl #[.slice (some ad396) y398.length c0, .string ((rd_T92 l0 x15_2).f0)] (by rfl) rfl rfl gA ?_
           with_reducible refine (impl_place.calls _ _ y398 ((rd_T92 l0 x15_2).f0) t402 _ ?side1 ?side2 A12.out).mono ?_
           (case side1 => exact cB HR401)
           (case side2 => exact HC401.out)
           rintro e w25 ⟨rfl, hb⟩
           refine ⟨_, rfl, ?_⟩
           have n0_ := Aside0.mk (kb BK397 hb)
           have n1_ := Aside0.mk (below_step (w := w) bW hb)
           clear BK397
           clear HB
           have BK397 := n0_
           have HB := n1_
           clear n0_ n1_
           (try clear hb)
           (try clear hb2)
           (try clear hk)
           (try clear hi)
           refine hK.out _ _ ⟨(blk_cell BK397.out 0).trans rfl, (blk_cell BK397.out 1).trans rfl, (blk_cell BK397.out 2).trans rfl, (blk_cell BK397.out 3).trans rfl⟩ (fun hHeld => ?_)
           clear hK K
           refine norm_ (a' := ?_) ?_ ?_
           rotate_left
           ·show Act.put _ (some 25) _ = _
            simp only [Act.put, List.setIfInBounds_toArray, List.set_cons_zero, List.set_cons_succ, i64_w, i32_w]
            rfl
           refine pure_ (i := 6) (N := some 26) (v := ?_) (a' := ?_) #[true, true, true, true, true, true, true] rfl rfl (by kernel_rfl) (fun _ _ _ h => h) (Or.inl ⟨by rfl, ?_⟩) ?_ ?_
           rotate_left
           ·intro w'
            go_simp
            with_reducible rfl
           rotate_left
           ·simp only [Act.put, List.setIfInBounds_toArray, List.set_cons_zero, List.set_cons_succ, i64_w, i32_w]
            rfl
           refine done_ (by kernel_rfl) ?_
           try go_wp2
           go_roundg k2
           case measure => have := HJ1.out; have := HK2.out; omega
           case rel => exact ⟨(wrap64 (x15_2 + 1)), vE, H', ⟨by have := HJ1.out; have := HK2.out; omega⟩, ⟨bW⟩⟩
         ·rw [if_neg c11] at H
          exact absurd H (by simp)
        ·rw [if_neg c9] at H
         exact absurd H (by simp)
       ·rw [if_neg c8] at H
        exact absurd H (by simp)
      ·rw [if_neg c7] at H
       have c7b0 : decide (x15_2 < (l0.length : Int)) = false := decide_eq_false c7
       clear c7
       obtain rfl := Option.some.inj H
       go_wp2
       go_ret
       exact ⟨rE, bW⟩
end Go.Proofs.Ytekoaaiemmblgaa.Q
end

section
namespace Go.Proofs.Ytekoaaiemmblgaa.Q
open Go.RowKit Go.Proofs.YtekoaaiemmblgaaW.PrintWords Go.Proofs.YtekoaaiemmblgaaW.PrintLast Go.Proofs.YtekoaaiemmblgaaW.PrintMore
attribute [local go_sem] max2_int min2_int max_two min_two max_three min_three max_four min_four   -- for this text's walks alone
set_option linter.unusedVariables false
set_option linter.unusedSimpArgs false
attribute [local go_sem] bin_leq bin_gtr bin_geq
def areAllRef_baseOK.f (l0 : List (S92)) (l1_0 : List (S78)) (l1_1 : List (S92)) : Option (Bool) := some (l0.all (fun x => decide (x.f1 ≤ (l1_0.length : Int))))
theorem baseOK_asks (A1 A2 : Option Addr) (c1 n c2 m : Nat) (B : Nat) (l : List S92) (w : World) (hB : B < w.heap.size) (hc : w.cell? ⟨B, 0, none⟩ = some (.slice A1 n c1)) :
    Asks_Ref 77 #[.pointer (some ⟨B, 0, none⟩)] (fun x => decide (x.f1 ≤ (n : Int))) w l := by
  intro W x hW hx
  have hc' : W.cell? ⟨B, 0, none⟩ = some (.slice A1 n c1) := (hW.cell (p := ⟨B, 0, none⟩) hB).trans hc
  have hB' : B < W.heap.size := Nat.lt_of_lt_of_le hB hW.size
  have HBX : Below W.heap.size W (W.alloc (.cells #[.string x.f0, .int .i64 x.f1, .int .i64 x.f2, .bool x.f3] 92)) := (Below.refl _ _).alloc (Nat.le_refl _) _
  have hcb : (W.alloc (.cells #[.string x.f0, .int .i64 x.f1, .int .i64 x.f2, .bool x.f3] 92)).cell? ⟨B, 0, none⟩ = some (.slice A1 n c1) := (HBX.cell (p := ⟨B, 0, none⟩) hB').trans hc'
  have HBA := Aside0.mk HBX
  clear hx hW hc HBX hB
  go_enter Try.func77, Try.ntmps77
  go_wp2
  repeat (go_quiet (fail); try go_wp2)
  go_ret
  exact ⟨rfl, by repeat (first | exact HBA.out | apply pw_below_drewN)⟩
theorem areAllRef_baseOK.calls (A0 : Option Addr) (c0 : Nat) (l0 : List (S92)) (A1_0 : Option Addr) (c1_0 : Nat) (l1_0 : List (S78)) (A1_1 : Option Addr) (c1_1 : Nat) (l1_1 : List (S92)) {B : Nat} (r : Bool) (w : World) (hr0 : Kd.C k92 w A0 l0.length l0) (hc0 : l0.length ≤ c0) (hr1_0 : Kd.C k78 w A1_0 l1_0.length l1_0) (hc1_0 : l1_0.length ≤ c1_0) (hr1_1 : Kd.C k92 w A1_1 l1_1.length l1_1) (hc1_1 : l1_1.length ≤ c1_1) (hk : w.heap[B]? = some (.cells #[.slice A1_0 l1_0.length c1_0, .slice A1_1 l1_1.length c1_1] 32 (0, 0))) (h : areAllRef_baseOK.f l0 l1_0 l1_1 = some r) :
    Calls Try.prog 76 #[.slice A0 l0.length c0, .func (.func 77) #[] #[.pointer (some ⟨B, 0, none⟩)]] w fun e w' => e = .returned (.bool r) ∧ Below w.heap.size w w' := by
  obtain rfl := Option.some.inj h
  exact allF_Ref 77 #[.pointer (some ⟨B, 0, none⟩)] (enters_ Try.func77 (by kernel_rfl) rfl) _ A0 c0 l0 w hr0 hc0 (baseOK_asks A1_0 A1_1 c1_0 l1_0.length c1_1 l1_1.length B l0 w (blk_lt hk) ((blk_cell hk 0).trans rfl))
end Go.Proofs.Ytekoaaiemmblgaa.Q
end

section
namespace Go.Proofs.Ytekoaaiemmblgaa.Q
open Go.RowKit Go.Proofs.YtekoaaiemmblgaaW.PrintWords Go.Proofs.YtekoaaiemmblgaaW.PrintLast Go.Proofs.YtekoaaiemmblgaaW.PrintMore
attribute [local go_sem] max2_int min2_int max_two min_two max_three min_three max_four min_four   -- for this text's walks alone
set_option linter.unusedVariables false
set_option linter.unusedSimpArgs false
attribute [local go_sem] bin_leq bin_gtr bin_geq
def impl_BaseOK.f (k : Nat) (l0_0 : List (S78)) (l0_1 : List (S92)) : Option (Bool) := (impl_StoreOK.f k l0_0).bind fun t404 => (if t404 = true then ((impl_RefsOK.f k l0_1).bind fun t405 => (if t405 = true then ((areAllRef_baseOK.f l0_1 l0_0 l0_1).bind fun t406 => (some t406)) else (some false))) else (some false))
set_option maxHeartbeats 8000000 in
set_option maxRecDepth 100000 in
theorem impl_BaseOK.calls (k : Nat) (A0_0 : Option Addr) (c0_0 : Nat) (l0_0 : List (S78)) (A0_1 : Option Addr) (c0_1 : Nat) (l0_1 : List (S92)) (r : Bool) (w : World) (hr0_0 : Kd.C k78 w A0_0 l0_0.length l0_0) (hc0_0 : l0_0.length ≤ c0_0) (hr0_1 : Kd.C k92 w A0_1 l0_1.length l0_1) (hc0_1 : l0_1.length ≤ c0_1) (h : impl_BaseOK.f k l0_0 l0_1 = some r) :
    Calls Try.prog 30 #[.agg #[.slice A0_0 l0_0.length c0_0, .slice A0_1 l0_1.length c0_1]] w fun e w' => e = .returned (.bool r) ∧ Below w.heap.size w w' := by
  have hu32 := Try.underlying32
  have HR0_0 := Aside0.mk hr0_0
  have HC0_0 := Aside0.mk hc0_0
  clear hr0_0 hc0_0
  have HR0_1 := Aside0.mk hr0_1
  have HC0_1 := Aside0.mk hc0_1
  clear hr0_1 hc0_1
  have HB := Aside0.mk (Below.refl w.heap.size w)
  have H : ((impl_StoreOK.f k l0_0).bind fun t404 => (if t404 = true then ((impl_RefsOK.f k l0_1).bind fun t405 => (if t405 = true then ((areAllRef_baseOK.f l0_1 l0_0 l0_1).bind fun t406 => (some t406)) else (some false))) else (some false))) = some r := h
  clear h
  replace H := Option.bind_eq_some_iff.mp H
  obtain ⟨t404, A20, H⟩ := H
  replace H : (if t404 = true then ((impl_RefsOK.f k l0_1).bind fun t405 => (if t405 = true then ((areAllRef_baseOK.f l0_1 l0_0 l0_1).bind fun t406 => (some t406)) else (some false))) else (some false)) = some r := H
  have A2 := Aside0.mk A20
  clear A20
  by_cases c3 : t404 = true
  · subst c3
    have H1 : ((impl_RefsOK.f k l0_1).bind fun t405 => (if t405 = true then ((areAllRef_baseOK.f l0_1 l0_0 l0_1).bind fun t406 => (some t406)) else (some false))) = some r := by rw [if_pos rfl] at H; exact H
    clear H
    have H := H1
    clear H1
    replace H := Option.bind_eq_some_iff.mp H
    obtain ⟨t405, A40, H⟩ := H
    replace H : (if t405 = true then ((areAllRef_baseOK.f l0_1 l0_0 l0_1).bind fun t406 => (some t406)) else (some false)) = some r := H
    have A4 := Aside0.mk A40
    clear A40
    by_cases c5 : t405 = true
    · subst c5
      have H1 : ((areAllRef_baseOK.f l0_1 l0_0 l0_1).bind fun t406 => (some t406)) = some r := by rw [if_pos rfl] at H; exact H
      clear H
      have H := H1
      clear H1
      replace H := Option.bind_eq_some_iff.mp H
      obtain ⟨t406, A60, H⟩ := H
      replace H : (some t406) = some r := H
      have A6 := Aside0.mk A60
      clear A60
      obtain rfl := Option.some.inj H
      go_enter Try.func30, Try.ntmps30
      go_wp2_with (first | ((with_reducible refine gate_dst (N := 1) rfl ?_); refine bE (N := 1) (cs := #[.slice A0_0 l0_0.length c0_0, .slice A0_1 l0_1.length c0_1]) (t := 32) ?_; intro gb403 hg w7 hbox hb; have n0_ := Aside0.mk (below_step (w := w) bW hb); have n1_ := Aside0.mk (hbox); have n2_ := Aside0.mk (gS (w := w) hg); have n3_ := n2_; clear HB; have HB := n0_; have BK403 := n1_; have GW403 := n2_; have GE403 := n3_; clear n0_ n1_ n2_ n3_; clear hb hbox hg; obtain ⟨hcz8_0, hcz8_1⟩ := cz2 BK403; obtain ⟨hfz8_0, hfz8_1⟩ := fz2 BK403) | ((with_reducible refine gate_callee (f := 56) rfl ?_); refine goesL_ (some 5) rfl rfl Try.func56 (by kernel_rfl) rfl #[.slice A0_0 l0_0.length c0_0] rfl gA ?_; (with_reducible refine (impl_StoreOK.calls k _ _ l0_0 true _ ?side1 ?side2 A2.out).mono ?_); (case side1 => exact cB HR0_0); (case side2 => exact HC0_0.out); rintro e w9 ⟨rfl, hb⟩; refine ⟨_, rfl, ?_⟩; have n0_ := Aside0.mk (kb BK403 hb); have n1_ := Aside0.mk (below_step (w := w) bW hb); clear BK403; clear HB; have BK403 := n0_; have HB := n1_; clear n0_ n1_; (try clear hb); (try clear hb2); (try clear hk); (try clear hi); obtain ⟨hcz10_0, hcz10_1⟩ := cz2 BK403; obtain ⟨hfz10_0, hfz10_1⟩ := fz2 BK403) | (go_at_call 75; (with_reducible refine (impl_RefsOK.calls k _ _ l0_1 true _ ?side1 ?side2 A4.out).mono ?_); (case side1 => exact cB HR0_1); (case side2 => exact HC0_1.out); rintro e w11 ⟨rfl, hb⟩; have n0_ := Aside0.mk (kb BK403 hb); have n1_ := Aside0.mk (below_step (w := w) bW hb); clear BK403; clear HB; have BK403 := n0_; have HB := n1_; clear n0_ n1_; (try clear hb); (try clear hb2); (try clear hk); (try clear hi); obtain ⟨hcz12_0, hcz12_1⟩ := cz2 BK403; obtain ⟨hfz12_0, hfz12_1⟩ := fz2 BK403) | (go_at_call 76; (with_reducible refine (areAllRef_baseOK.calls _ _ l0_1 A0_0 c0_0 l0_0 A0_1 c0_1 l0_1 t406 _ ?side1 ?side2 ?side3 ?side4 ?side5 ?side6 ?side7 A6.out).mono ?_); (case side1 => exact cB HR0_1); (case side2 => exact HC0_1.out); (case side3 => exact cB HR0_0); (case side4 => exact HC0_0.out); (case side5 => exact cB HR0_1); (case side6 => exact HC0_1.out); (case side7 => exact (kB BK403)); rintro e w13 ⟨rfl, hb⟩; have n0_ := Aside0.mk (kb BK403 hb); have n1_ := Aside0.mk (below_step (w := w) bW hb); clear BK403; clear HB; have BK403 := n0_; have HB := n1_; clear n0_ n1_; (try clear hb); (try clear hb2); (try clear hk); (try clear hi)))
      go_ret
      exact ⟨rE, bW⟩
    · replace c5 := Bool.eq_false_iff.mpr c5
      subst c5
      have H1 : (some false) = some r := by rw [if_neg (show ¬ (false = true) by decide)] at H; exact H
      clear H
      have H := H1
      clear H1
      obtain rfl := Option.some.inj H
      go_enter Try.func30, Try.ntmps30
      go_wp2_with (first | ((with_reducible refine gate_dst (N := 1) rfl ?_); refine bE (N := 1) (cs := #[.slice A0_0 l0_0.length c0_0, .slice A0_1 l0_1.length c0_1]) (t := 32) ?_; intro gb403 hg w14 hbox hb; have n0_ := Aside0.mk (below_step (w := w) bW hb); have n1_ := Aside0.mk (hbox); have n2_ := Aside0.mk (gS (w := w) hg); have n3_ := n2_; clear HB; have HB := n0_; have BK403 := n1_; have GW403 := n2_; have GE403 := n3_; clear n0_ n1_ n2_ n3_; clear hb hbox hg; obtain ⟨hcz15_0, hcz15_1⟩ := cz2 BK403; obtain ⟨hfz15_0, hfz15_1⟩ := fz2 BK403) | ((with_reducible refine gate_callee (f := 56) rfl ?_); refine goesL_ (some 5) rfl rfl Try.func56 (by kernel_rfl) rfl #[.slice A0_0 l0_0.length c0_0] rfl gA ?_; (with_reducible refine (impl_StoreOK.calls k _ _ l0_0 true _ ?side1 ?side2 A2.out).mono ?_); (case side1 => exact cB HR0_0); (case side2 => exact HC0_0.out); rintro e w16 ⟨rfl, hb⟩; refine ⟨_, rfl, ?_⟩; have n0_ := Aside0.mk (kb BK403 hb); have n1_ := Aside0.mk (below_step (w := w) bW hb); clear BK403; clear HB; have BK403 := n0_; have HB := n1_; clear n0_ n1_; (try clear hb); (try clear hb2); (try clear hk); (try clear hi); obtain ⟨hcz17_0, hcz17_1⟩ := cz2 BK403; obtain ⟨hfz17_0, hfz17_1⟩ := fz2 BK403) | (go_at_call 75; (with_reducible refine (impl_RefsOK.calls k _ _ l0_1 false _ ?side1 ?side2 A4.out).mono ?_); (case side1 => exact cB HR0_1); (case side2 => exact HC0_1.out); rintro e w18 ⟨rfl, hb⟩; have n0_ := Aside0.mk (kb BK403 hb); have n1_ := Aside0.mk (below_step (w := w) bW hb); clear BK403; clear HB; have BK403 := n0_; have HB := n1_; clear n0_ n1_; (try clear hb); (try clear hb2); (try clear hk); (try clear hi)))
      go_ret
      exact ⟨rE, bW⟩
  · replace c3 := Bool.eq_false_iff.mpr c3
    subst c3
    have H1 : (some false) = some r := by rw [if_neg (show ¬ (false = true) by decide)] at H; exact H
    clear H
    have H := H1
    clear H1
    obtain rfl := Option.some.inj H
    go_enter Try.func30, Try.ntmps30
    go_wp2_with (first | ((with_reducible refine gate_dst (N := 1) rfl ?_); refine bE (N := 1) (cs := #[.slice A0_0 l0_0.length c0_0, .slice A0_1 l0_1.length c0_1]) (t := 32) ?_; intro gb403 hg w19 hbox hb; have n0_ := Aside0.mk (below_step (w := w) bW hb); have n1_ := Aside0.mk (hbox); have n2_ := Aside0.mk (gS (w := w) hg); have n3_ := n2_; clear HB; have HB := n0_; have BK403 := n1_; have GW403 := n2_; have GE403 := n3_; clear n0_ n1_ n2_ n3_; clear hb hbox hg; obtain ⟨hcz20_0, hcz20_1⟩ := cz2 BK403; obtain ⟨hfz20_0, hfz20_1⟩ := fz2 BK403) | ((with_reducible refine gate_callee (f := 56) rfl ?_); refine goesL_ (some 5) rfl rfl Try.func56 (by kernel_rfl) rfl #[.slice A0_0 l0_0.length c0_0] rfl gA ?_; (with_reducible refine (impl_StoreOK.calls k _ _ l0_0 false _ ?side1 ?side2 A2.out).mono ?_); (case side1 => exact cB HR0_0); (case side2 => exact HC0_0.out); rintro e w21 ⟨rfl, hb⟩; refine ⟨_, rfl, ?_⟩; have n0_ := Aside0.mk (kb BK403 hb); have n1_ := Aside0.mk (below_step (w := w) bW hb); clear BK403; clear HB; have BK403 := n0_; have HB := n1_; clear n0_ n1_; (try clear hb); (try clear hb2); (try clear hk); (try clear hi)))
    go_ret
    exact ⟨rE, bW⟩
end Go.Proofs.Ytekoaaiemmblgaa.Q
end

section
namespace Go.Proofs.Ytekoaaiemmblgaa.Q
open Go.RowKit Go.Proofs.YtekoaaiemmblgaaW.PrintWords Go.Proofs.YtekoaaiemmblgaaW.PrintLast Go.Proofs.YtekoaaiemmblgaaW.PrintMore
attribute [local go_sem] max2_int min2_int max_two min_two max_three min_three max_four min_four   -- for this text's walks alone
set_option linter.unusedVariables false
set_option linter.unusedSimpArgs false
attribute [local go_sem] bin_leq bin_gtr bin_geq
def impl_isText.f (a0 : ByteArray) : Option (Bool) := some (decide ((a0.size : Int) ≤ 65536))
set_option maxHeartbeats 8000000 in
set_option maxRecDepth 100000 in
theorem impl_isText.calls (a0 : ByteArray) (r : Bool) (w : World) (h : impl_isText.f a0 = some r) :
    Calls Try.prog 82 #[.string a0] w fun e w' => e = .returned (.bool r) ∧ Drawn0 w w' := by
  have H : (some (decide ((a0.size : Int) ≤ 65536))) = some r := h
  clear h
  obtain rfl := Option.some.inj H
  go_enter Try.func82, Try.ntmps82
  go_wp2
  go_ret
  exact ⟨by first | rfl | (simp; done) | (simp [*]; done), by repeat (first | exact Drawn0.refl _ | apply Drawn0.step)⟩
end Go.Proofs.Ytekoaaiemmblgaa.Q
end

section
namespace Go.Proofs.Ytekoaaiemmblgaa.Q
open Go.RowKit Go.Proofs.YtekoaaiemmblgaaW.PrintWords Go.Proofs.YtekoaaiemmblgaaW.PrintLast Go.Proofs.YtekoaaiemmblgaaW.PrintMore
attribute [local go_sem] max2_int min2_int max_two min_two max_three min_three max_four min_four   -- for this text's walks alone
set_option linter.unusedVariables false
set_option linter.unusedSimpArgs false
attribute [local go_sem] bin_leq bin_gtr bin_geq
def impl_live.f (l0 : List (S92)) (a1 : ByteArray) : Option (Int × Bool) := (impl_place.f l0 a1).bind fun t485 => (if t485 ≥ 0 then (if 0 ≤ t485 then (if t485 < (l0.length : Int) then (some (t485, !((rd_T92 l0 t485).f3))) else (none)) else (none)) else (some (t485, false)))
set_option maxHeartbeats 8000000 in
set_option maxRecDepth 100000 in
theorem impl_live.calls (A0 : Option Addr) (c0 : Nat) (l0 : List (S92)) (a1 : ByteArray) (r1 : Int) (r2 : Bool) (w : World) (hr0 : Kd.C k92 w A0 l0.length l0) (hc0 : l0.length ≤ c0) (h : impl_live.f l0 a1 = some (r1, r2)) :
    Calls Try.prog 83 #[.slice A0 l0.length c0, .string a1] w fun e w' => e = .returned (.tuple #[.int .i64 r1, .bool r2]) ∧ Below w.heap.size w w' := by
  have HR0 := Aside0.mk hr0
  have HC0 := Aside0.mk hc0
  clear hr0 hc0
  have HB := Aside0.mk (Below.refl w.heap.size w)
  have H : ((impl_place.f l0 a1).bind fun t485 => (if t485 ≥ 0 then (if 0 ≤ t485 then (if t485 < (l0.length : Int) then (some (t485, !((rd_T92 l0 t485).f3))) else (none)) else (none)) else (some (t485, false)))) = some (r1, r2) := h
  clear h
  replace H := Option.bind_eq_some_iff.mp H
  obtain ⟨t485, A30, H⟩ := H
  replace H : (if t485 ≥ 0 then (if 0 ≤ t485 then (if t485 < (l0.length : Int) then (some (t485, !((rd_T92 l0 t485).f3))) else (none)) else (none)) else (some (t485, false))) = some (r1, r2) := H
  have A3 := Aside0.mk A30
  clear A30
  by_cases c4 : t485 ≥ 0
  · rw [if_pos c4] at H
    have c4b0 : decide (0 ≤ t485) = true := decide_eq_true c4
    clear c4
    by_cases c5 : 0 ≤ t485
    · rw [if_pos c5] at H
      have c5b0 : decide (0 ≤ t485) = true := decide_eq_true c5
      clear c5
      by_cases c6 : t485 < (l0.length : Int)
      · rw [if_pos c6] at H
        have c6b0 : decide (t485 < (l0.length : Int)) = true := decide_eq_true c6
        clear c6
        simp only [Option.some.injEq, Prod.mk.injEq] at H
        obtain ⟨rfl, rfl⟩ := H
        go_enter Try.func83, Try.ntmps83
        go_wp2_with (first | (go_at_call 111; (with_reducible refine (impl_place.calls _ _ l0 a1 t485 _ ?side1 ?side2 A3.out).mono ?_); (case side1 => exact cN HR0); (case side2 => exact HC0.out); rintro e w7 ⟨rfl, hb⟩; have n0_ := Aside0.mk (below_step (w := w) bW hb); clear HB; have HB := n0_; clear n0_; (try clear hb); (try clear hb2); (try clear hk); (try clear hi); have p486 : 0 ≤ (t485 : Int) := odt; have q486 : t485 < (l0.length : Int) := odt; obtain ⟨ad486, e486, hx486_0, hx486_1, hx486_2, hx486_3⟩ := at_T92 HR0.out t485 p486 q486; cases e486; replace hx486_0 := (HB.out.cell (World.block_lt_of_cell? w _ hx486_0)).trans hx486_0; replace hx486_1 := (HB.out.cell (World.block_lt_of_cell? w _ hx486_1)).trans hx486_1; replace hx486_2 := (HB.out.cell (World.block_lt_of_cell? w _ hx486_2)).trans hx486_2; replace hx486_3 := (HB.out.cell (World.block_lt_of_cell? w _ hx486_3)).trans hx486_3; replace p486 := eq_true p486; replace q486 := eq_true q486))
        repeat (go_quiet (first | (go_at_call 111; (with_reducible refine (impl_place.calls _ _ l0 a1 t485 _ ?side1 ?side2 A3.out).mono ?_); (case side1 => exact cN HR0); (case side2 => exact HC0.out); rintro e w7 ⟨rfl, hb⟩; have n0_ := Aside0.mk (below_step (w := w) bW hb); clear HB; have HB := n0_; clear n0_; (try clear hb); (try clear hb2); (try clear hk); (try clear hi); have p486 : 0 ≤ (t485 : Int) := odt; have q486 : t485 < (l0.length : Int) := odt; obtain ⟨ad486, e486, hx486_0, hx486_1, hx486_2, hx486_3⟩ := at_T92 HR0.out t485 p486 q486; cases e486; replace hx486_0 := (HB.out.cell (World.block_lt_of_cell? w _ hx486_0)).trans hx486_0; replace hx486_1 := (HB.out.cell (World.block_lt_of_cell? w _ hx486_1)).trans hx486_1; replace hx486_2 := (HB.out.cell (World.block_lt_of_cell? w _ hx486_2)).trans hx486_2; replace hx486_3 := (HB.out.cell (World.block_lt_of_cell? w _ hx486_3)).trans hx486_3; replace p486 := eq_true p486; replace q486 := eq_true q486)); try go_wp2_with (first | (go_at_call 111; (with_reducible refine (impl_place.calls _ _ l0 a1 t485 _ ?side1 ?side2 A3.out).mono ?_); (case side1 => exact cN HR0); (case side2 => exact HC0.out); rintro e w7 ⟨rfl, hb⟩; have n0_ := Aside0.mk (below_step (w := w) bW hb); clear HB; have HB := n0_; clear n0_; (try clear hb); (try clear hb2); (try clear hk); (try clear hi); have p486 : 0 ≤ (t485 : Int) := odt; have q486 : t485 < (l0.length : Int) := odt; obtain ⟨ad486, e486, hx486_0, hx486_1, hx486_2, hx486_3⟩ := at_T92 HR0.out t485 p486 q486; cases e486; replace hx486_0 := (HB.out.cell (World.block_lt_of_cell? w _ hx486_0)).trans hx486_0; replace hx486_1 := (HB.out.cell (World.block_lt_of_cell? w _ hx486_1)).trans hx486_1; replace hx486_2 := (HB.out.cell (World.block_lt_of_cell? w _ hx486_2)).trans hx486_2; replace hx486_3 := (HB.out.cell (World.block_lt_of_cell? w _ hx486_3)).trans hx486_3; replace p486 := eq_true p486; replace q486 := eq_true q486)))
        go_ret2
        exact ⟨rE, bW⟩
      · rw [if_neg c6] at H
        exact absurd H (by simp)
    · rw [if_neg c5] at H
      exact absurd H (by simp)
  · rw [if_neg c4] at H
    have c4b0 : decide (0 ≤ t485) = false := decide_eq_false c4
    clear c4
    simp only [Option.some.injEq, Prod.mk.injEq] at H
    obtain ⟨rfl, rfl⟩ := H
    go_enter Try.func83, Try.ntmps83
    go_wp2_with (first | (go_at_call 111; (with_reducible refine (impl_place.calls _ _ l0 a1 t485 _ ?side1 ?side2 A3.out).mono ?_); (case side1 => exact cN HR0); (case side2 => exact HC0.out); rintro e w8 ⟨rfl, hb⟩; have n0_ := Aside0.mk (below_step (w := w) bW hb); clear HB; have HB := n0_; clear n0_; (try clear hb); (try clear hb2); (try clear hk); (try clear hi)))
    repeat (go_quiet (first | (go_at_call 111; (with_reducible refine (impl_place.calls _ _ l0 a1 t485 _ ?side1 ?side2 A3.out).mono ?_); (case side1 => exact cN HR0); (case side2 => exact HC0.out); rintro e w8 ⟨rfl, hb⟩; have n0_ := Aside0.mk (below_step (w := w) bW hb); clear HB; have HB := n0_; clear n0_; (try clear hb); (try clear hb2); (try clear hk); (try clear hi))); try go_wp2_with (first | (go_at_call 111; (with_reducible refine (impl_place.calls _ _ l0 a1 t485 _ ?side1 ?side2 A3.out).mono ?_); (case side1 => exact cN HR0); (case side2 => exact HC0.out); rintro e w8 ⟨rfl, hb⟩; have n0_ := Aside0.mk (below_step (w := w) bW hb); clear HB; have HB := n0_; clear n0_; (try clear hb); (try clear hb2); (try clear hk); (try clear hi))))
    go_ret2
    exact ⟨rE, bW⟩
end Go.Proofs.Ytekoaaiemmblgaa.Q
end

section
namespace Go.Proofs.Ytekoaaiemmblgaa.Q
open Go.RowKit Go.Proofs.YtekoaaiemmblgaaW.PrintWords Go.Proofs.YtekoaaiemmblgaaW.PrintLast Go.Proofs.YtekoaaiemmblgaaW.PrintMore
attribute [local go_sem] max2_int min2_int max_two min_two max_three min_three max_four min_four   -- for this text's walks alone
set_option linter.unusedVariables false
set_option linter.unusedSimpArgs false
attribute [local go_sem] bin_leq bin_gtr bin_geq
def impl_OpenSnap.f (k : Nat) (l0_0 : List (S78)) (l0_1 : List (S92)) (a1 : ByteArray) : Option (ByteArray × Int × Int) := (impl_isText.f a1).bind fun t489 => (if t489 = true then ((impl_BaseOK.f k l0_0 l0_1).bind fun t490 => (if t490 = true then ((impl_live.f l0_1 a1).bind fun bt491 => (if bt491.2 = true then (if 0 ≤ bt491.1 then (if bt491.1 < (l0_1.length : Int) then (some (a1, (rd_T92 l0_1 bt491.1).f1, 0)) else (none)) else (none)) else (some ((⟨#[]⟩ : ByteArray), 0, 10)))) else (some ((⟨#[]⟩ : ByteArray), 0, 1)))) else (some ((⟨#[]⟩ : ByteArray), 0, 2)))
set_option maxHeartbeats 8000000 in
set_option maxRecDepth 100000 in
theorem impl_OpenSnap.calls (k : Nat) (A0_0 : Option Addr) (c0_0 : Nat) (l0_0 : List (S78)) (A0_1 : Option Addr) (c0_1 : Nat) (l0_1 : List (S92)) (a1 : ByteArray) (r1 : ByteArray) (r2 : Int) (r3 : Int) (w : World) (hr0_0 : Kd.C k78 w A0_0 l0_0.length l0_0) (hc0_0 : l0_0.length ≤ c0_0) (hr0_1 : Kd.C k92 w A0_1 l0_1.length l0_1) (hc0_1 : l0_1.length ≤ c0_1) (h : impl_OpenSnap.f k l0_0 l0_1 a1 = some (r1, r2, r3)) :
  Calls Try.prog 36 #[.agg #[.slice A0_0 l0_0.length c0_0, .slice A0_1 l0_1.length c0_1], .string a1] w fun e w' => e = .returned (.tuple #[.agg #[.string r1, .int .i64 r2], .int .i64 r3]) ∧ Below w.heap.size w w' := by
 have hu32 := Try.underlying32
 have hu53 := Try.underlying53
 have HR0_0 := Aside0.mk hr0_0
 have HC0_0 := Aside0.mk hc0_0
 clear hr0_0 hc0_0
 have HR0_1 := Aside0.mk hr0_1
 have HC0_1 := Aside0.mk hc0_1
 clear hr0_1 hc0_1
 have HB := Aside0.mk (Below.refl w.heap.size w)
 have H : ((impl_isText.f a1).bind fun t489 => (if t489 = true then ((impl_BaseOK.f k l0_0 l0_1).bind fun t490 => (if t490 = true then ((impl_live.f l0_1 a1).bind fun bt491 => (if bt491.2 = true then (if 0 ≤ bt491.1 then (if bt491.1 < (l0_1.length : Int) then (some (a1, (rd_T92 l0_1 bt491.1).f1, 0)) else (none)) else (none)) else (some ((⟨#[]⟩ : ByteArray), 0, 10)))) else (some ((⟨#[]⟩ : ByteArray), 0, 1)))) else (some ((⟨#[]⟩ : ByteArray), 0, 2)))) = some (r1, r2, r3) := h
 clear h
 replace H := Option.bind_eq_some_iff.mp H
 obtain ⟨t489, A30, H⟩ := H
 replace H : (if t489 = true then ((impl_BaseOK.f k l0_0 l0_1).bind fun t490 => (if t490 = true then ((impl_live.f l0_1 a1).bind fun bt491 => (if bt491.2 = true then (if 0 ≤ bt491.1 then (if bt491.1 < (l0_1.length : Int) then (some (a1, (rd_T92 l0_1 bt491.1).f1, 0)) else (none)) else (none)) else (some ((⟨#[]⟩ : ByteArray), 0, 10)))) else (some ((⟨#[]⟩ : ByteArray), 0, 1)))) else (some ((⟨#[]⟩ : ByteArray), 0, 2))) = some (r1, r2, r3) := H
 have A3 := Aside0.mk A30
 clear A30
 by_cases c4 : t489 = true
 ·subst c4
  have H1 : ((impl_BaseOK.f k l0_0 l0_1).bind fun t490 => (if t490 = true then ((impl_live.f l0_1 a1).bind fun bt491 => (if bt491.2 = true then (if 0 ≤ bt491.1 then (if bt491.1 < (l0_1.length : Int) then (some (a1, (rd_T92 l0_1 bt491.1).f1, 0)) else (none)) else (none)) else (some ((⟨#[]⟩ : ByteArray), 0, 10)))) else (some ((⟨#[]⟩ : ByteArray), 0, 1)))) = some (r1, r2, r3) := by rw [if_pos rfl] at H; exact H
  clear H
  have H := H1
  clear H1
  replace H := Option.bind_eq_some_iff.mp H
  obtain ⟨t490, A50, H⟩ := H
  replace H : (if t490 = true then ((impl_live.f l0_1 a1).bind fun bt491 => (if bt491.2 = true then (if 0 ≤ bt491.1 then (if bt491.1 < (l0_1.length : Int) then (some (a1, (rd_T92 l0_1 bt491.1).f1, 0)) else (none)) else (none)) else (some ((⟨#[]⟩ : ByteArray), 0, 10)))) else (some ((⟨#[]⟩ : ByteArray), 0, 1))) = some (r1, r2, r3) := H
  have A5 := Aside0.mk A50
  clear A50
  by_cases c6 : t490 = true
  ·subst c6
   have H1 : ((impl_live.f l0_1 a1).bind fun bt491 => (if bt491.2 = true then (if 0 ≤ bt491.1 then (if bt491.1 < (l0_1.length : Int) then (some (a1, (rd_T92 l0_1 bt491.1).f1, 0)) else (none)) else (none)) else (some ((⟨#[]⟩ : ByteArray), 0, 10)))) = some (r1, r2, r3) := by rw [if_pos rfl] at H; exact H
   clear H
   have H := H1
   clear H1
   replace H := Option.bind_eq_some_iff.mp H
   obtain ⟨⟨t491, t492⟩, A70, H⟩ := H
   replace H : (if t492 = true then (if 0 ≤ t491 then (if t491 < (l0_1.length : Int) then (some (a1, (rd_T92 l0_1 t491).f1, 0)) else (none)) else (none)) else (some ((⟨#[]⟩ : ByteArray), 0, 10))) = some (r1, r2, r3) := H
   have A7 := Aside0.mk A70
   clear A70
   by_cases c8 : t492 = true
   ·subst c8
    have H1 : (if 0 ≤ t491 then (if t491 < (l0_1.length : Int) then (some (a1, (rd_T92 l0_1 t491).f1, 0)) else (none)) else (none)) = some (r1, r2, r3) := by rw [if_pos rfl] at H; exact H
    clear H
    have H := H1
    clear H1
    by_cases c9 : 0 ≤ t491
    ·rw [if_pos c9] at H
     have c9b0 : decide (0 ≤ t491) = true := decide_eq_true c9
     clear c9
     by_cases c10 : t491 < (l0_1.length : Int)
     ·rw [if_pos c10] at H
      have c10b0 : decide (t491 < (l0_1.length : Int)) = true := decide_eq_true c10
      clear c10
      simp only [Option.some.injEq, Prod.mk.injEq] at H
      obtain ⟨rfl, rfl, rfl⟩ := H
      go_enter Try.func36, Try.ntmps36
      go_wp2_with (first | ((with_reducible refine gate_dst (N := 2) rfl ?_); refine bE (N := 2) (cs := #[.slice A0_0 l0_0.length c0_0, .slice A0_1 l0_1.length c0_1]) (t := 32) ?_; intro gb487 hg w11 hbox hb; have n0_ := Aside0.mk (below_step (w := w) bW hb); have n1_ := Aside0.mk (hbox); have n2_ := Aside0.mk (gS (w := w) hg); have n3_ := n2_; clear HB; have HB := n0_; have BK487 := n1_; have GW487 := n2_; have GE487 := n3_; clear n0_ n1_ n2_ n3_; clear hb hbox hg) | ((with_reducible refine gate_dst (N := 4) rfl ?_); refine bE (N := 4) (cs := #[.string (⟨#[]⟩ : ByteArray), .int .i64 0]) (t := 53) ?_; intro gb488 hg w12 hbox hb; have n0_ := Aside0.mk (kb BK487 hb); have n1_ := Aside0.mk (below_step (w := w) bW hb); have n2_ := Aside0.mk (hbox); have n3_ := Aside0.mk (gS (w := w) hg); have n4_ := n3_; have n5_ := Aside0.mk (nL BK487 hg); have n6_ := Aside0.mk (nG BK487 hg); clear BK487; clear HB; have BK487 := n0_; have HB := n1_; have BK488 := n2_; have GW488 := n3_; have GE488 := n4_; have NB487_488 := n5_; have NB488_487 := n6_; clear n0_ n1_ n2_ n3_ n4_ n5_ n6_; clear hb hbox hg) | ((with_reducible refine gate_callee (f := 82) rfl ?_); refine goesL_ (some 10) rfl rfl Try.func82 (by kernel_rfl) rfl #[.string a1] rfl gA ?_; (with_reducible refine (impl_isText.calls a1 true _ A3.out).mono ?_); rintro e w' ⟨rfl, ⟨nd, rfl⟩⟩; refine ⟨_, rfl, ?_⟩; (try (rw [drewN_self w12]; generalize hq_ : World.drewN w12 _ = w12; have n0_ : Aside0 (w12.heap[gb487]? = some (.cells #[.slice A0_0 l0_0.length c0_0, .slice A0_1 l0_1.length c0_1] 32 (0, 0))) := ⟨by rw [← hq_]; exact (kB BK487)⟩; have n1_ : Aside0 (w12.heap[gb488]? = some (.cells #[.string (⟨#[]⟩ : ByteArray), .int .i64 0] 53 (0, 0))) := ⟨by rw [← hq_]; exact (kB BK488)⟩; have n2_ : Aside0 (Below w.heap.size w w12) := ⟨by rw [← hq_]; exact bW⟩; clear BK487 BK488 HB hq_; have BK487 := n0_; have BK488 := n1_; have HB := n2_; clear n0_ n1_ n2_)); (try have hcq488_0 : w12.cell? ⟨gb488, 0, none⟩ = some (.string (⟨#[]⟩ : ByteArray)) := (blk_cell BK488.out 0).trans rfl); (try have hcq488_1 : w12.cell? ⟨gb488, 1, none⟩ = some (.int .i64 0) := (blk_cell BK488.out 1).trans rfl); have hnb13 := NB487_488.out; have hnc13 := NB488_487.out; obtain ⟨hcz14_0, hcz14_1⟩ := cz2 BK487; obtain ⟨hfz14_0, hfz14_1⟩ := fz2 BK487) | ((with_reducible refine gate_callee (f := 30) rfl ?_); refine goesL_ (some 15) rfl rfl Try.func30 (by kernel_rfl) rfl #[.agg #[.slice A0_0 l0_0.length c0_0, .slice A0_1 l0_1.length c0_1]] rfl gA ?_; (with_reducible refine (impl_BaseOK.calls k _ _ l0_0 _ _ l0_1 true _ ?side1 ?side2 ?side3 ?side4 A5.out).mono ?_); (case side1 => exact cB HR0_0); (case side2 => exact HC0_0.out); (case side3 => exact cB HR0_1); (case side4 => exact HC0_1.out); rintro e w15 ⟨rfl, hb⟩; refine ⟨_, rfl, ?_⟩; have n0_ := Aside0.mk (kb BK487 hb); have n1_ := Aside0.mk (kb BK488 hb); have n2_ := Aside0.mk (below_step (w := w) bW hb); clear BK487; clear BK488; clear HB; have BK487 := n0_; have BK488 := n1_; have HB := n2_; clear n0_ n1_ n2_; (try clear hb); (try clear hb2); (try clear hk); (try clear hi); obtain ⟨hcz16_0, hcz16_1⟩ := cz2 BK487; obtain ⟨hfz16_0, hfz16_1⟩ := fz2 BK487) | ((with_reducible refine gate_callee (f := 83) rfl ?_); refine goesL_ (some 22) rfl rfl Try.func83 (by kernel_rfl) rfl #[.slice A0_1 l0_1.length c0_1, .string a1] rfl gA ?_; (with_reducible refine (impl_live.calls _ _ l0_1 a1 t491 true _ ?side1 ?side2 A7.out).mono ?_); (case side1 => exact cB HR0_1); (case side2 => exact HC0_1.out); rintro e w17 ⟨rfl, hb⟩; refine ⟨_, rfl, ?_⟩; have n0_ := Aside0.mk (kb BK487 hb); have n1_ := Aside0.mk (kb BK488 hb); have n2_ := Aside0.mk (below_step (w := w) bW hb); clear BK487; clear BK488; clear HB; have BK487 := n0_; have BK488 := n1_; have HB := n2_; clear n0_ n1_ n2_; (try clear hb); (try clear hb2); (try clear hk); (try clear hi); obtain ⟨hcz18_0, hcz18_1⟩ := cz2 BK487; obtain ⟨hfz18_0, hfz18_1⟩ := fz2 BK487; have p493 : 0 ≤ (t491 : Int) := odt; have q493 : t491 < (l0_1.length : Int) := odt; obtain ⟨ad493, e493, hx493_0, hx493_1, hx493_2, hx493_3⟩ := at_T92 HR0_1.out t491 p493 q493; cases e493; replace hx493_0 := (HB.out.cell (World.block_lt_of_cell? w _ hx493_0)).trans hx493_0; replace hx493_1 := (HB.out.cell (World.block_lt_of_cell? w _ hx493_1)).trans hx493_1; replace hx493_2 := (HB.out.cell (World.block_lt_of_cell? w _ hx493_2)).trans hx493_2; replace hx493_3 := (HB.out.cell (World.block_lt_of_cell? w _ hx493_3)).trans hx493_3; replace p493 := eq_true p493; replace q493 := eq_true q493; obtain ⟨hcz19_0, hcz19_1⟩ := cz2 BK488; obtain ⟨hfz19_0, hfz19_1⟩ := fz2 BK488))
      refine bodyPost_ret (results_ct rfl _ _ gb488 53 #[.string a1, .int .i64 ((rd_T92 l0_1 t491).f1)] (0, 0) _ rfl (by (with_reducible repeat (first | refine blk_drewN ?_ _ | refine blk_drew ?_ | refine blk_alloc ?_ _)); refine blk_put (cs := #[.string a1, .int .i64 0]) ?_ 1 _ rfl; (with_reducible repeat (first | refine blk_drewN ?_ _ | refine blk_drew ?_ | refine blk_alloc ?_ _)); refine blk_put (cs := #[.string (⟨#[]⟩ : ByteArray), .int .i64 0]) ?_ 0 _ rfl; (with_reducible repeat (first | refine blk_drewN ?_ _ | refine blk_drew ?_ | refine blk_alloc ?_ _)); exact BK488.out) Try.underlying53 rfl (by kernel_rfl)) rfl ?_
      exact ⟨rE, bW⟩
     ·rw [if_neg c10] at H
      exact absurd H (by simp)
    ·rw [if_neg c9] at H
     exact absurd H (by simp)
   ·replace c8 := Bool.eq_false_iff.mpr c8
    subst c8
    have H1 : (some ((⟨#[]⟩ : ByteArray), 0, 10)) = some (r1, r2, r3) := by rw [if_neg (show ¬ (false = true) by decide)] at H; exact H
    clear H
    have H := H1
    clear H1
    simp only [Option.some.injEq, Prod.mk.injEq] at H
    obtain ⟨rfl, rfl, rfl⟩ := H
    go_enter Try.func36, Try.ntmps36
    go_wp2_with (first | ((with_reducible refine gate_dst (N := 2) rfl ?_); refine bE (N := 2) (cs := #[.slice A0_0 l0_0.length c0_0, .slice A0_1 l0_1.length c0_1]) (t := 32) ?_; intro gb487 hg w20 hbox hb; have n0_ := Aside0.mk (below_step (w := w) bW hb); have n1_ := Aside0.mk (hbox); have n2_ := Aside0.mk (gS (w := w) hg); have n3_ := n2_; clear HB; have HB := n0_; have BK487 := n1_; have GW487 := n2_; have GE487 := n3_; clear n0_ n1_ n2_ n3_; clear hb hbox hg) | ((with_reducible refine gate_dst (N := 4) rfl ?_); refine bE (N := 4) (cs := #[.string (⟨#[]⟩ : ByteArray), .int .i64 0]) (t := 53) ?_; intro gb488 hg w21 hbox hb; have n0_ := Aside0.mk (kb BK487 hb); have n1_ := Aside0.mk (below_step (w := w) bW hb); have n2_ := Aside0.mk (hbox); have n3_ := Aside0.mk (gS (w := w) hg); have n4_ := n3_; have n5_ := Aside0.mk (nL BK487 hg); have n6_ := Aside0.mk (nG BK487 hg); clear BK487; clear HB; have BK487 := n0_; have HB := n1_; have BK488 := n2_; have GW488 := n3_; have GE488 := n4_; have NB487_488 := n5_; have NB488_487 := n6_; clear n0_ n1_ n2_ n3_ n4_ n5_ n6_; clear hb hbox hg) | ((with_reducible refine gate_callee (f := 82) rfl ?_); refine goesL_ (some 10) rfl rfl Try.func82 (by kernel_rfl) rfl #[.string a1] rfl gA ?_; (with_reducible refine (impl_isText.calls a1 true _ A3.out).mono ?_); rintro e w' ⟨rfl, ⟨nd, rfl⟩⟩; refine ⟨_, rfl, ?_⟩; (try (rw [drewN_self w21]; generalize hq_ : World.drewN w21 _ = w21; have n0_ : Aside0 (w21.heap[gb487]? = some (.cells #[.slice A0_0 l0_0.length c0_0, .slice A0_1 l0_1.length c0_1] 32 (0, 0))) := ⟨by rw [← hq_]; exact (kB BK487)⟩; have n1_ : Aside0 (w21.heap[gb488]? = some (.cells #[.string (⟨#[]⟩ : ByteArray), .int .i64 0] 53 (0, 0))) := ⟨by rw [← hq_]; exact (kB BK488)⟩; have n2_ : Aside0 (Below w.heap.size w w21) := ⟨by rw [← hq_]; exact bW⟩; clear BK487 BK488 HB hq_; have BK487 := n0_; have BK488 := n1_; have HB := n2_; clear n0_ n1_ n2_)); (try have hcq488_0 : w21.cell? ⟨gb488, 0, none⟩ = some (.string (⟨#[]⟩ : ByteArray)) := (blk_cell BK488.out 0).trans rfl); (try have hcq488_1 : w21.cell? ⟨gb488, 1, none⟩ = some (.int .i64 0) := (blk_cell BK488.out 1).trans rfl); have hnb22 := NB487_488.out; have hnc22 := NB488_487.out; obtain ⟨hcz23_0, hcz23_1⟩ := cz2 BK487; obtain ⟨hfz23_0, hfz23_1⟩ := fz2 BK487) | ((with_reducible refine gate_callee (f := 30) rfl ?_); refine goesL_ (some 15) rfl rfl Try.func30 (by kernel_rfl) rfl #[.agg #[.slice A0_0 l0_0.length c0_0, .slice A0_1 l0_1.length c0_1]] rfl gA ?_; (with_reducible refine (impl_BaseOK.calls k _ _ l0_0 _ _ l0_1 true _ ?side1 ?side2 ?side3 ?side4 A5.out).mono ?_); (case side1 => exact cB HR0_0); (case side2 => exact HC0_0.out); (case side3 => exact cB HR0_1); (case side4 => exact HC0_1.out); rintro e w24 ⟨rfl, hb⟩; refine ⟨_, rfl, ?_⟩; have n0_ := Aside0.mk (kb BK487 hb); have n1_ := Aside0.mk (kb BK488 hb); have n2_ := Aside0.mk (below_step (w := w) bW hb); clear BK487; clear BK488; clear HB; have BK487 := n0_; have BK488 := n1_; have HB := n2_; clear n0_ n1_ n2_; (try clear hb); (try clear hb2); (try clear hk); (try clear hi); obtain ⟨hcz25_0, hcz25_1⟩ := cz2 BK487; obtain ⟨hfz25_0, hfz25_1⟩ := fz2 BK487) | ((with_reducible refine gate_callee (f := 83) rfl ?_); refine goesL_ (some 22) rfl rfl Try.func83 (by kernel_rfl) rfl #[.slice A0_1 l0_1.length c0_1, .string a1] rfl gA ?_; (with_reducible refine (impl_live.calls _ _ l0_1 a1 t491 false _ ?side1 ?side2 A7.out).mono ?_); (case side1 => exact cB HR0_1); (case side2 => exact HC0_1.out); rintro e w26 ⟨rfl, hb⟩; refine ⟨_, rfl, ?_⟩; have n0_ := Aside0.mk (kb BK487 hb); have n1_ := Aside0.mk (kb BK488 hb); have n2_ := Aside0.mk (below_step (w := w) bW hb); clear BK487; clear BK488; clear HB; have BK487 := n0_; have BK488 := n1_; have HB := n2_; clear n0_ n1_ n2_; (try clear hb); (try clear hb2); (try clear hk); (try clear hi); obtain ⟨hcz27_0, hcz27_1⟩ := cz2 BK488; obtain ⟨hfz27_0, hfz27_1⟩ := fz2 BK488))
    refine bodyPost_ret (results_ct rfl _ _ gb488 53 #[.string (⟨#[]⟩ : ByteArray), .int .i64 0] (0, 0) _ rfl (by (with_reducible repeat (first | refine blk_drewN ?_ _ | refine blk_drew ?_ | refine blk_alloc ?_ _)); refine blk_put (cs := #[.string (⟨#[]⟩ : ByteArray), .int .i64 0]) ?_ 1 _ rfl; (with_reducible repeat (first | refine blk_drewN ?_ _ | refine blk_drew ?_ | refine blk_alloc ?_ _)); refine blk_put (cs := #[.string (⟨#[]⟩ : ByteArray), .int .i64 0]) ?_ 0 _ rfl; (with_reducible repeat (first | refine blk_drewN ?_ _ | refine blk_drew ?_ | refine blk_alloc ?_ _)); exact BK488.out) Try.underlying53 rfl (by kernel_rfl)) rfl ?_
    exact ⟨rE, bW⟩
  ·replace c6 := Bool.eq_false_iff.mpr c6
   subst c6
   have H1 : (some ((⟨#[]⟩ : ByteArray), 0, 1)) = some (r1, r2, r3) := by rw [if_neg (show ¬ (false = true) by decide)] at H; exact H
   clear H
   have H := H1
   clear H1
   simp only [Option.some.injEq, Prod.mk.injEq] at H
   obtain ⟨rfl, rfl, rfl⟩ := H
   go_enter Try.func36, Try.ntmps36
   go_wp2_with (first | ((with_reducible refine gate_dst (N := 2) rfl ?_); refine bE (N := 2) (cs := #[.slice A0_0 l0_0.length c0_0, .slice A0_1 l0_1.length c0_1]) (t := 32) ?_; intro gb487 hg w28 hbox hb; have n0_ := Aside0.mk (below_step (w := w) bW hb); have n1_ := Aside0.mk (hbox); have n2_ := Aside0.mk (gS (w := w) hg); have n3_ := n2_; clear HB; have HB := n0_; have BK487 := n1_; have GW487 := n2_; have GE487 := n3_; clear n0_ n1_ n2_ n3_; clear hb hbox hg) | ((with_reducible refine gate_dst (N := 4) rfl ?_); refine bE (N := 4) (cs := #[.string (⟨#[]⟩ : ByteArray), .int .i64 0]) (t := 53) ?_; intro gb488 hg w29 hbox hb; have n0_ := Aside0.mk (kb BK487 hb); have n1_ := Aside0.mk (below_step (w := w) bW hb); have n2_ := Aside0.mk (hbox); have n3_ := Aside0.mk (gS (w := w) hg); have n4_ := n3_; have n5_ := Aside0.mk (nL BK487 hg); have n6_ := Aside0.mk (nG BK487 hg); clear BK487; clear HB; have BK487 := n0_; have HB := n1_; have BK488 := n2_; have GW488 := n3_; have GE488 := n4_; have NB487_488 := n5_; have NB488_487 := n6_; clear n0_ n1_ n2_ n3_ n4_ n5_ n6_; clear hb hbox hg) | ((with_reducible refine gate_callee (f := 82) rfl ?_); refine goesL_ (some 10) rfl rfl Try.func82 (by kernel_rfl) rfl #[.string a1] rfl gA ?_; (with_reducible refine (impl_isText.calls a1 true _ A3.out).mono ?_); rintro e w' ⟨rfl, ⟨nd, rfl⟩⟩; refine ⟨_, rfl, ?_⟩; (try (rw [drewN_self w29]; generalize hq_ : World.drewN w29 _ = w29; have n0_ : Aside0 (w29.heap[gb487]? = some (.cells #[.slice A0_0 l0_0.length c0_0, .slice A0_1 l0_1.length c0_1] 32 (0, 0))) := ⟨by rw [← hq_]; exact (kB BK487)⟩; have n1_ : Aside0 (w29.heap[gb488]? = some (.cells #[.string (⟨#[]⟩ : ByteArray), .int .i64 0] 53 (0, 0))) := ⟨by rw [← hq_]; exact (kB BK488)⟩; have n2_ : Aside0 (Below w.heap.size w w29) := ⟨by rw [← hq_]; exact bW⟩; clear BK487 BK488 HB hq_; have BK487 := n0_; have BK488 := n1_; have HB := n2_; clear n0_ n1_ n2_)); (try have hcq488_0 : w29.cell? ⟨gb488, 0, none⟩ = some (.string (⟨#[]⟩ : ByteArray)) := (blk_cell BK488.out 0).trans rfl); (try have hcq488_1 : w29.cell? ⟨gb488, 1, none⟩ = some (.int .i64 0) := (blk_cell BK488.out 1).trans rfl); have hnb30 := NB487_488.out; have hnc30 := NB488_487.out; obtain ⟨hcz31_0, hcz31_1⟩ := cz2 BK487; obtain ⟨hfz31_0, hfz31_1⟩ := fz2 BK487) | ((with_reducible refine gate_callee (f := 30) rfl ?_); refine goesL_ (some 15) rfl rfl Try.func30 (by kernel_rfl) rfl #[.agg #[.slice A0_0 l0_0.length c0_0, .slice A0_1 l0_1.length c0_1]] rfl gA ?_; (with_reducible refine (impl_BaseOK.calls k _ _ l0_0 _ _ l0_1 false _ ?side1 ?side2 ?side3 ?side4 A5.out).mono ?_); (case side1 => exact cB HR0_0); (case side2 => exact HC0_0.out); (case side3 => exact cB HR0_1); (case side4 => exact HC0_1.out); rintro e w32 ⟨rfl, hb⟩; refine ⟨_, rfl, ?_⟩; have n0_ := Aside0.mk (kb BK487 hb); have n1_ := Aside0.mk (kb BK488 hb); have n2_ := Aside0.mk (below_step (w := w) bW hb); clear BK487; clear BK488; clear HB; have BK487 := n0_; have BK488 := n1_; have HB := n2_; clear n0_ n1_ n2_; (try clear hb); (try clear hb2); (try clear hk); (try clear hi); obtain ⟨hcz33_0, hcz33_1⟩ := cz2 BK488; obtain ⟨hfz33_0, hfz33_1⟩ := fz2 BK488))
   refine bodyPost_ret (results_ct rfl _ _ gb488 53 #[.string (⟨#[]⟩ : ByteArray), .int .i64 0] (0, 0) _ rfl (by (with_reducible repeat (first | refine blk_drewN ?_ _ | refine blk_drew ?_ | refine blk_alloc ?_ _)); refine blk_put (cs := #[.string (⟨#[]⟩ : ByteArray), .int .i64 0]) ?_ 1 _ rfl; (with_reducible repeat (first | refine blk_drewN ?_ _ | refine blk_drew ?_ | refine blk_alloc ?_ _)); refine blk_put (cs := #[.string (⟨#[]⟩ : ByteArray), .int .i64 0]) ?_ 0 _ rfl; (with_reducible repeat (first | refine blk_drewN ?_ _ | refine blk_drew ?_ | refine blk_alloc ?_ _)); exact BK488.out) Try.underlying53 rfl (by kernel_rfl)) rfl ?_
   exact ⟨rE, bW⟩
 ·replace c4 := Bool.eq_false_iff.mpr c4
  subst c4
  have H1 : (some ((⟨#[]⟩ : ByteArray), 0, 2)) = some (r1, r2, r3) := by rw [if_neg (show ¬ (false = true) by decide)] at H; exact H
  clear H
  have H := H1
  clear H1
  simp only [Option.some.injEq, Prod.mk.injEq] at H
  obtain ⟨rfl, rfl, rfl⟩ := H
  go_enter Try.func36, Try.ntmps36
  go_wp2_with (first | ((with_reducible refine gate_dst (N := 2) rfl ?_); refine bE (N := 2) (cs := #[.slice A0_0 l0_0.length c0_0, .slice A0_1 l0_1.length c0_1]) (t := 32) ?_; intro gb487 hg w34 hbox hb; have n0_ := Aside0.mk (below_step (w := w) bW hb); have n1_ := Aside0.mk (hbox); have n2_ := Aside0.mk (gS (w := w) hg); have n3_ := n2_; clear HB; have HB := n0_; have BK487 := n1_; have GW487 := n2_; have GE487 := n3_; clear n0_ n1_ n2_ n3_; clear hb hbox hg) | ((with_reducible refine gate_dst (N := 4) rfl ?_); refine bE (N := 4) (cs := #[.string (⟨#[]⟩ : ByteArray), .int .i64 0]) (t := 53) ?_; intro gb488 hg w35 hbox hb; have n0_ := Aside0.mk (kb BK487 hb); have n1_ := Aside0.mk (below_step (w := w) bW hb); have n2_ := Aside0.mk (hbox); have n3_ := Aside0.mk (gS (w := w) hg); have n4_ := n3_; have n5_ := Aside0.mk (nL BK487 hg); have n6_ := Aside0.mk (nG BK487 hg); clear BK487; clear HB; have BK487 := n0_; have HB := n1_; have BK488 := n2_; have GW488 := n3_; have GE488 := n4_; have NB487_488 := n5_; have NB488_487 := n6_; clear n0_ n1_ n2_ n3_ n4_ n5_ n6_; clear hb hbox hg) | ((with_reducible refine gate_callee (f := 82) rfl ?_); refine goesL_ (some 10) rfl rfl Try.func82 (by kernel_rfl) rfl #[.string a1] rfl gA ?_; (with_reducible refine (impl_isText.calls a1 false _ A3.out).mono ?_); rintro e w' ⟨rfl, ⟨nd, rfl⟩⟩; refine ⟨_, rfl, ?_⟩; (try (rw [drewN_self w35]; generalize hq_ : World.drewN w35 _ = w35; have n0_ : Aside0 (w35.heap[gb487]? = some (.cells #[.slice A0_0 l0_0.length c0_0, .slice A0_1 l0_1.length c0_1] 32 (0, 0))) := ⟨by rw [← hq_]; exact (kB BK487)⟩; have n1_ : Aside0 (w35.heap[gb488]? = some (.cells #[.string (⟨#[]⟩ : ByteArray), .int .i64 0] 53 (0, 0))) := ⟨by rw [← hq_]; exact (kB BK488)⟩; have n2_ : Aside0 (Below w.heap.size w w35) := ⟨by rw [← hq_]; exact bW⟩; clear BK487 BK488 HB hq_; have BK487 := n0_; have BK488 := n1_; have HB := n2_; clear n0_ n1_ n2_)); (try have hcq487_0 : w35.cell? ⟨gb487, 0, none⟩ = some (.slice A0_0 l0_0.length c0_0) := (blk_cell BK487.out 0).trans rfl); (try have hcq487_1 : w35.cell? ⟨gb487, 1, none⟩ = some (.slice A0_1 l0_1.length c0_1) := (blk_cell BK487.out 1).trans rfl); have hnb36 := NB488_487.out; have hnc36 := NB487_488.out; obtain ⟨hcz37_0, hcz37_1⟩ := cz2 BK488; obtain ⟨hfz37_0, hfz37_1⟩ := fz2 BK488))
  refine bodyPost_ret (results_ct rfl _ _ gb488 53 #[.string (⟨#[]⟩ : ByteArray), .int .i64 0] (0, 0) _ rfl (by (with_reducible repeat (first | refine blk_drewN ?_ _ | refine blk_drew ?_ | refine blk_alloc ?_ _)); refine blk_put (cs := #[.string (⟨#[]⟩ : ByteArray), .int .i64 0]) ?_ 1 _ rfl; (with_reducible repeat (first | refine blk_drewN ?_ _ | refine blk_drew ?_ | refine blk_alloc ?_ _)); refine blk_put (cs := #[.string (⟨#[]⟩ : ByteArray), .int .i64 0]) ?_ 0 _ rfl; (with_reducible repeat (first | refine blk_drewN ?_ _ | refine blk_drew ?_ | refine blk_alloc ?_ _)); exact BK488.out) Try.underlying53 rfl (by kernel_rfl)) rfl ?_
  exact ⟨rE, bW⟩
end Go.Proofs.Ytekoaaiemmblgaa.Q
end

section
namespace Go.Proofs.Ytekoaaiemmblgaa.Q
open Go.RowKit Go.Proofs.YtekoaaiemmblgaaW.PrintWords Go.Proofs.YtekoaaiemmblgaaW.PrintLast Go.Proofs.YtekoaaiemmblgaaW.PrintMore
attribute [local go_sem] max2_int min2_int max_two min_two max_three min_three max_four min_four   -- for this text's walks alone
set_option linter.unusedVariables false
set_option linter.unusedSimpArgs false
attribute [local go_sem] bin_leq bin_gtr bin_geq
def laws_eqSnap.f (a0_0 : ByteArray) (a0_1 : Int) (a1_0 : ByteArray) (a1_1 : Int) : Option (Bool) := if a0_0.toList = a1_0.toList then (if a0_1 = a1_1 then (some true) else (some false)) else (some false)
set_option maxHeartbeats 8000000 in
set_option maxRecDepth 100000 in
theorem laws_eqSnap.calls (a0_0 : ByteArray) (a0_1 : Int) (a1_0 : ByteArray) (a1_1 : Int) (r : Bool) (w : World) (h : laws_eqSnap.f a0_0 a0_1 a1_0 a1_1 = some r) :
    Calls Try.prog 37 #[.agg #[.string a0_0, .int .i64 a0_1], .agg #[.string a1_0, .int .i64 a1_1]] w fun e w' => e = .returned (.bool r) ∧ Below w.heap.size w w' := by
  have hu53 := Try.underlying53
  have HB := Aside0.mk (Below.refl w.heap.size w)
  have H : (if a0_0.toList = a1_0.toList then (if a0_1 = a1_1 then (some true) else (some false)) else (some false)) = some r := h
  clear h
  by_cases c3 : a0_0.toList = a1_0.toList
  · rw [if_pos c3] at H
    have c3b0 : (a0_0.toList == a1_0.toList) = true := beq_iff_eq.mpr c3
    have c3b1 : (a0_0.toList != a1_0.toList) = false := bne_eq_false_iff_eq.mpr c3
    clear c3
    by_cases c4 : a0_1 = a1_1
    · rw [if_pos c4] at H
      have c4b0 : (a0_1 == a1_1) = true := beq_iff_eq.mpr c4
      have c4b1 : (a0_1 != a1_1) = false := bne_eq_false_iff_eq.mpr c4
      clear c4
      obtain rfl := Option.some.inj H
      go_enter Try.func37, Try.ntmps37
      go_wp2_with (first | ((with_reducible refine gate_dst (N := 2) rfl ?_); refine bE (N := 2) (cs := #[.string a0_0, .int .i64 a0_1]) (t := 53) ?_; intro gb494 hg w5 hbox hb; have n0_ := Aside0.mk (below_step (w := w) bW hb); have n1_ := Aside0.mk (hbox); have n2_ := Aside0.mk (gS (w := w) hg); have n3_ := n2_; clear HB; have HB := n0_; have BK494 := n1_; have GW494 := n2_; have GE494 := n3_; clear n0_ n1_ n2_ n3_; clear hb hbox hg) | ((with_reducible refine gate_dst (N := 3) rfl ?_); refine bE (N := 3) (cs := #[.string a1_0, .int .i64 a1_1]) (t := 53) ?_; intro gb495 hg w6 hbox hb; have n0_ := Aside0.mk (kb BK494 hb); have n1_ := Aside0.mk (below_step (w := w) bW hb); have n2_ := Aside0.mk (hbox); have n3_ := Aside0.mk (gS (w := w) hg); have n4_ := n3_; have n5_ := Aside0.mk (nL BK494 hg); have n6_ := Aside0.mk (nG BK494 hg); clear BK494; clear HB; have BK494 := n0_; have HB := n1_; have BK495 := n2_; have GW495 := n3_; have GE495 := n4_; have NB494_495 := n5_; have NB495_494 := n6_; clear n0_ n1_ n2_ n3_ n4_ n5_ n6_; clear hb hbox hg; have hnb7 := NB494_495.out; have hnc7 := NB495_494.out; obtain ⟨hcz8_0, hcz8_1⟩ := cz2 BK494; obtain ⟨hfz8_0, hfz8_1⟩ := fz2 BK494; obtain ⟨hcz9_0, hcz9_1⟩ := cz2 BK495; obtain ⟨hfz9_0, hfz9_1⟩ := fz2 BK495))
      go_ret
      exact ⟨rE, bW⟩
    · rw [if_neg c4] at H
      have c4b0 : (a0_1 == a1_1) = false := beq_eq_false_iff_ne.mpr c4
      have c4b1 : (a0_1 != a1_1) = true := bne_iff_ne.mpr c4
      obtain rfl := Option.some.inj H
      go_enter Try.func37, Try.ntmps37
      go_wp2_with (first | ((with_reducible refine gate_dst (N := 2) rfl ?_); refine bE (N := 2) (cs := #[.string a0_0, .int .i64 a0_1]) (t := 53) ?_; intro gb494 hg w10 hbox hb; have n0_ := Aside0.mk (below_step (w := w) bW hb); have n1_ := Aside0.mk (hbox); have n2_ := Aside0.mk (gS (w := w) hg); have n3_ := n2_; clear HB; have HB := n0_; have BK494 := n1_; have GW494 := n2_; have GE494 := n3_; clear n0_ n1_ n2_ n3_; clear hb hbox hg) | ((with_reducible refine gate_dst (N := 3) rfl ?_); refine bE (N := 3) (cs := #[.string a1_0, .int .i64 a1_1]) (t := 53) ?_; intro gb495 hg w11 hbox hb; have n0_ := Aside0.mk (kb BK494 hb); have n1_ := Aside0.mk (below_step (w := w) bW hb); have n2_ := Aside0.mk (hbox); have n3_ := Aside0.mk (gS (w := w) hg); have n4_ := n3_; have n5_ := Aside0.mk (nL BK494 hg); have n6_ := Aside0.mk (nG BK494 hg); clear BK494; clear HB; have BK494 := n0_; have HB := n1_; have BK495 := n2_; have GW495 := n3_; have GE495 := n4_; have NB494_495 := n5_; have NB495_494 := n6_; clear n0_ n1_ n2_ n3_ n4_ n5_ n6_; clear hb hbox hg; have hnb12 := NB494_495.out; have hnc12 := NB495_494.out; obtain ⟨hcz13_0, hcz13_1⟩ := cz2 BK494; obtain ⟨hfz13_0, hfz13_1⟩ := fz2 BK494; obtain ⟨hcz14_0, hcz14_1⟩ := cz2 BK495; obtain ⟨hfz14_0, hfz14_1⟩ := fz2 BK495))
      go_ret
      exact ⟨rE, bW⟩
  · rw [if_neg c3] at H
    have c3b0 : (a0_0.toList == a1_0.toList) = false := beq_eq_false_iff_ne.mpr c3
    have c3b1 : (a0_0.toList != a1_0.toList) = true := bne_iff_ne.mpr c3
    obtain rfl := Option.some.inj H
    go_enter Try.func37, Try.ntmps37
    go_wp2_with (first | ((with_reducible refine gate_dst (N := 2) rfl ?_); refine bE (N := 2) (cs := #[.string a0_0, .int .i64 a0_1]) (t := 53) ?_; intro gb494 hg w15 hbox hb; have n0_ := Aside0.mk (below_step (w := w) bW hb); have n1_ := Aside0.mk (hbox); have n2_ := Aside0.mk (gS (w := w) hg); have n3_ := n2_; clear HB; have HB := n0_; have BK494 := n1_; have GW494 := n2_; have GE494 := n3_; clear n0_ n1_ n2_ n3_; clear hb hbox hg) | ((with_reducible refine gate_dst (N := 3) rfl ?_); refine bE (N := 3) (cs := #[.string a1_0, .int .i64 a1_1]) (t := 53) ?_; intro gb495 hg w16 hbox hb; have n0_ := Aside0.mk (kb BK494 hb); have n1_ := Aside0.mk (below_step (w := w) bW hb); have n2_ := Aside0.mk (hbox); have n3_ := Aside0.mk (gS (w := w) hg); have n4_ := n3_; have n5_ := Aside0.mk (nL BK494 hg); have n6_ := Aside0.mk (nG BK494 hg); clear BK494; clear HB; have BK494 := n0_; have HB := n1_; have BK495 := n2_; have GW495 := n3_; have GE495 := n4_; have NB494_495 := n5_; have NB495_494 := n6_; clear n0_ n1_ n2_ n3_ n4_ n5_ n6_; clear hb hbox hg; have hnb17 := NB494_495.out; have hnc17 := NB495_494.out; obtain ⟨hcz18_0, hcz18_1⟩ := cz2 BK494; obtain ⟨hfz18_0, hfz18_1⟩ := fz2 BK494; obtain ⟨hcz19_0, hcz19_1⟩ := cz2 BK495; obtain ⟨hfz19_0, hfz19_1⟩ := fz2 BK495))
    go_ret
    exact ⟨rE, bW⟩
end Go.Proofs.Ytekoaaiemmblgaa.Q
end

section
namespace Go.Proofs.Ytekoaaiemmblgaa.Q
open Go.RowKit Go.Proofs.YtekoaaiemmblgaaW.PrintWords Go.Proofs.YtekoaaiemmblgaaW.PrintLast Go.Proofs.YtekoaaiemmblgaaW.PrintMore
attribute [local go_sem] max2_int min2_int max_two min_two max_three min_three max_four min_four   -- for this text's walks alone
set_option linter.unusedVariables false
set_option linter.unusedSimpArgs false
attribute [local go_sem] bin_leq bin_gtr bin_geq
def laws_FnExactOpenSnap.j0 : Nat → Bool → List (S75) → List (S118) → List (S78) → List (S92) → Option (Bool)
 | 0, _, _, _, _, _ => none
 | k + 1, x42, x497000, x497001, x515000, x515001 => if x42 = true then (some false) else ((laws_toBase.f k x497000 x497001).bind fun bt520 => ((laws_eqBase.f k x515000 x515001 bt520.1 bt520.2).bind fun t526 => (if t526 = true then (some true) else (some false))))
def laws_FnExactOpenSnap.f (k : Nat) (l0_0 : List (S75)) (l0_1 : List (S118)) (a1 : ByteArray) : Option (Bool) := if (a1.size : Int) > 1048576 then (some true) else ((laws_szBase.f k l0_0 l0_1 1048576).bind fun t497 => (if t497 < 0 then (some true) else ((laws_toBase.f k l0_0 l0_1).bind fun bt498 => ((spec_OpenSnap.f k bt498.1 bt498.2 a1).bind fun bt504 => ((laws_toBase.f k l0_0 l0_1).bind fun bt508 => ((impl_OpenSnap.f k bt508.1 bt508.2 a1).bind fun bt515 => ((laws_eqSnap.f bt515.1 bt515.2.1 bt504.1 bt504.2.1).bind fun t519 => (if t519 = true then (laws_FnExactOpenSnap.j0 k (bt515.2.2 != bt504.2.2) l0_0 l0_1 bt508.1 bt508.2) else (laws_FnExactOpenSnap.j0 k true l0_0 l0_1 bt508.1 bt508.2)))))))))
set_option maxHeartbeats 8000000 in
set_option maxRecDepth 100000 in
theorem laws_FnExactOpenSnap.calls (k : Nat) (A0_0 : Option Addr) (c0_0 : Nat) (l0_0 : List (S75)) (A0_1 : Option Addr) (c0_1 : Nat) (l0_1 : List (S118)) (a1 : ByteArray) (w : World) (hr0_0 : Kd.C k75 w A0_0 l0_0.length l0_0) (hc0_0 : l0_0.length ≤ c0_0) (hr0_1 : Kd.C k118 w A0_1 l0_1.length l0_1) (hc0_1 : l0_1.length ≤ c0_1) (h : laws_FnExactOpenSnap.f k l0_0 l0_1 a1 = some true) :
  Calls Try.prog 7 #[.agg #[.slice A0_0 l0_0.length c0_0, .slice A0_1 l0_1.length c0_1], .string a1] w fun e w' => e = .returned (.bool true) ∧ Below w.heap.size w w' := by
 have hu44 := Try.underlying44
 have hu53 := Try.underlying53
 have hu32 := Try.underlying32
 have HR0_0 := Aside0.mk hr0_0
 have HC0_0 := Aside0.mk hc0_0
 clear hr0_0 hc0_0
 have HR0_1 := Aside0.mk hr0_1
 have HC0_1 := Aside0.mk hc0_1
 clear hr0_1 hc0_1
 have HB := Aside0.mk (Below.refl w.heap.size w)
 have H : (if (a1.size : Int) > 1048576 then (some true) else ((laws_szBase.f k l0_0 l0_1 1048576).bind fun t497 => (if t497 < 0 then (some true) else ((laws_toBase.f k l0_0 l0_1).bind fun bt498 => ((spec_OpenSnap.f k bt498.1 bt498.2 a1).bind fun bt504 => ((laws_toBase.f k l0_0 l0_1).bind fun bt508 => ((impl_OpenSnap.f k bt508.1 bt508.2 a1).bind fun bt515 => ((laws_eqSnap.f bt515.1 bt515.2.1 bt504.1 bt504.2.1).bind fun t519 => (if t519 = true then (laws_FnExactOpenSnap.j0 k (bt515.2.2 != bt504.2.2) l0_0 l0_1 bt508.1 bt508.2) else (laws_FnExactOpenSnap.j0 k true l0_0 l0_1 bt508.1 bt508.2)))))))))) = some true := h
 clear h
 by_cases c3 : (a1.size : Int) > 1048576
 ·rw [if_pos c3] at H
  have c3b0 : decide (1048576 < (a1.size : Int)) = true := decide_eq_true c3
  have c3b1 : decide (1048576 < a1.size) = true := decide_eq_true (by omega)
  clear c3
  clear H
  go_enter Try.func7, Try.ntmps7
  go_wp2_with (first | ((with_reducible refine gate_dst (N := 2) rfl ?_); refine bE (N := 2) (cs := #[.slice A0_0 l0_0.length c0_0, .slice A0_1 l0_1.length c0_1]) (t := 44) ?_; intro gb496 hg w4 hbox hb; have n0_ := Aside0.mk (below_step (w := w) bW hb); have n1_ := Aside0.mk (hbox); have n2_ := Aside0.mk (gS (w := w) hg); have n3_ := n2_; clear HB; have HB := n0_; have BK496 := n1_; have GW496 := n2_; have GE496 := n3_; clear n0_ n1_ n2_ n3_; clear hb hbox hg))
  go_ret
  exact ⟨rE, bW⟩
 ·rw [if_neg c3] at H
  have c3b0 : decide (1048576 < (a1.size : Int)) = false := decide_eq_false c3
  have c3b1 : decide (1048576 < a1.size) = false := decide_eq_false (by omega)
  clear c3
  replace H := Option.bind_eq_some_iff.mp H
  obtain ⟨t497, A50, H⟩ := H
  replace H : (if t497 < 0 then (some true) else ((laws_toBase.f k l0_0 l0_1).bind fun bt498 => ((spec_OpenSnap.f k bt498.1 bt498.2 a1).bind fun bt504 => ((laws_toBase.f k l0_0 l0_1).bind fun bt508 => ((impl_OpenSnap.f k bt508.1 bt508.2 a1).bind fun bt515 => ((laws_eqSnap.f bt515.1 bt515.2.1 bt504.1 bt504.2.1).bind fun t519 => (if t519 = true then (laws_FnExactOpenSnap.j0 k (bt515.2.2 != bt504.2.2) l0_0 l0_1 bt508.1 bt508.2) else (laws_FnExactOpenSnap.j0 k true l0_0 l0_1 bt508.1 bt508.2)))))))) = some true := H
  have A5 := Aside0.mk A50
  clear A50
  by_cases c6 : t497 < 0
  ·rw [if_pos c6] at H
   have c6b0 : decide (t497 < 0) = true := decide_eq_true c6
   clear c6
   clear H
   go_enter Try.func7, Try.ntmps7
   go_wp2_with (first | ((with_reducible refine gate_dst (N := 2) rfl ?_); refine bE (N := 2) (cs := #[.slice A0_0 l0_0.length c0_0, .slice A0_1 l0_1.length c0_1]) (t := 44) ?_; intro gb496 hg w7 hbox hb; have n0_ := Aside0.mk (below_step (w := w) bW hb); have n1_ := Aside0.mk (hbox); have n2_ := Aside0.mk (gS (w := w) hg); have n3_ := n2_; clear HB; have HB := n0_; have BK496 := n1_; have GW496 := n2_; have GE496 := n3_; clear n0_ n1_ n2_ n3_; clear hb hbox hg; obtain ⟨hcz8_0, hcz8_1⟩ := cz2 BK496; obtain ⟨hfz8_0, hfz8_1⟩ := fz2 BK496) | ((with_reducible refine gate_callee (f := 27) rfl ?_); refine goesL_ (some 16) rfl rfl Try.func27 (by kernel_rfl) rfl #[.agg #[.slice A0_0 l0_0.length c0_0, .slice A0_1 l0_1.length c0_1], .int .i64 1048576] rfl gA ?_; (with_reducible refine (laws_szBase.calls k _ _ l0_0 _ _ l0_1 1048576 t497 _ ?side1 ?side2 ?side3 ?side4 A5.out).mono ?_); (case side1 => exact cB HR0_0); (case side2 => exact HC0_0.out); (case side3 => exact cB HR0_1); (case side4 => exact HC0_1.out); rintro e w9 ⟨rfl, hb⟩; refine ⟨_, rfl, ?_⟩; have n0_ := Aside0.mk (kb BK496 hb); have n1_ := Aside0.mk (below_step (w := w) bW hb); clear BK496; clear HB; have BK496 := n0_; have HB := n1_; clear n0_ n1_; (try clear hb); (try clear hb2); (try clear hk); (try clear hi)))
   go_ret
   exact ⟨rE, bW⟩
  ·rw [if_neg c6] at H
   have c6b0 : decide (t497 < 0) = false := decide_eq_false c6
   clear c6
   replace H := Option.bind_eq_some_iff.mp H
   obtain ⟨⟨t498, t501⟩, A100, H⟩ := H
   replace H : ((spec_OpenSnap.f k t498 t501 a1).bind fun bt504 => ((laws_toBase.f k l0_0 l0_1).bind fun bt508 => ((impl_OpenSnap.f k bt508.1 bt508.2 a1).bind fun bt515 => ((laws_eqSnap.f bt515.1 bt515.2.1 bt504.1 bt504.2.1).bind fun t519 => (if t519 = true then (laws_FnExactOpenSnap.j0 k (bt515.2.2 != bt504.2.2) l0_0 l0_1 bt508.1 bt508.2) else (laws_FnExactOpenSnap.j0 k true l0_0 l0_1 bt508.1 bt508.2)))))) = some true := H
   have A10 := Aside0.mk A100
   clear A100
   replace H := Option.bind_eq_some_iff.mp H
   obtain ⟨⟨t504, t505, t506⟩, A110, H⟩ := H
   replace H : ((laws_toBase.f k l0_0 l0_1).bind fun bt508 => ((impl_OpenSnap.f k bt508.1 bt508.2 a1).bind fun bt515 => ((laws_eqSnap.f bt515.1 bt515.2.1 t504 t505).bind fun t519 => (if t519 = true then (laws_FnExactOpenSnap.j0 k (bt515.2.2 != t506) l0_0 l0_1 bt508.1 bt508.2) else (laws_FnExactOpenSnap.j0 k true l0_0 l0_1 bt508.1 bt508.2))))) = some true := H
   have A11 := Aside0.mk A110
   clear A110
   replace H := Option.bind_eq_some_iff.mp H
   obtain ⟨⟨t508, t511⟩, A120, H⟩ := H
   replace H : ((impl_OpenSnap.f k t508 t511 a1).bind fun bt515 => ((laws_eqSnap.f bt515.1 bt515.2.1 t504 t505).bind fun t519 => (if t519 = true then (laws_FnExactOpenSnap.j0 k (bt515.2.2 != t506) l0_0 l0_1 t508 t511) else (laws_FnExactOpenSnap.j0 k true l0_0 l0_1 t508 t511)))) = some true := H
   have A12 := Aside0.mk A120
   clear A120
   replace H := Option.bind_eq_some_iff.mp H
   obtain ⟨⟨t515, t516, t517⟩, A130, H⟩ := H
   replace H : ((laws_eqSnap.f t515 t516 t504 t505).bind fun t519 => (if t519 = true then (laws_FnExactOpenSnap.j0 k (t517 != t506) l0_0 l0_1 t508 t511) else (laws_FnExactOpenSnap.j0 k true l0_0 l0_1 t508 t511))) = some true := H
   have A13 := Aside0.mk A130
   clear A130
   have HC14 := Aside0.mk H
   clear H
   go_enter Try.func7, Try.ntmps7
   go_upto_region 10 with (first | ((with_reducible refine gate_dst (N := 2) rfl ?_); refine bE (N := 2) (cs := #[.slice A0_0 l0_0.length c0_0, .slice A0_1 l0_1.length c0_1]) (t := 44) ?_; intro gb496 hg w15 hbox hb; have n0_ := Aside0.mk (below_step (w := w) bW hb); have n1_ := Aside0.mk (hbox); have n2_ := Aside0.mk (gS (w := w) hg); have n3_ := n2_; clear HB; have HB := n0_; have BK496 := n1_; have GW496 := n2_; have GE496 := n3_; clear n0_ n1_ n2_ n3_; clear hb hbox hg; obtain ⟨hcz16_0, hcz16_1⟩ := cz2 BK496; obtain ⟨hfz16_0, hfz16_1⟩ := fz2 BK496) | ((with_reducible refine gate_callee (f := 27) rfl ?_); refine goesL_ (some 16) rfl rfl Try.func27 (by kernel_rfl) rfl #[.agg #[.slice A0_0 l0_0.length c0_0, .slice A0_1 l0_1.length c0_1], .int .i64 1048576] rfl gA ?_; (with_reducible refine (laws_szBase.calls k _ _ l0_0 _ _ l0_1 1048576 t497 _ ?side1 ?side2 ?side3 ?side4 A5.out).mono ?_); (case side1 => exact cB HR0_0); (case side2 => exact HC0_0.out); (case side3 => exact cB HR0_1); (case side4 => exact HC0_1.out); rintro e w17 ⟨rfl, hb⟩; refine ⟨_, rfl, ?_⟩; have n0_ := Aside0.mk (kb BK496 hb); have n1_ := Aside0.mk (below_step (w := w) bW hb); clear BK496; clear HB; have BK496 := n0_; have HB := n1_; clear n0_ n1_; (try clear hb); (try clear hb2); (try clear hk); (try clear hi); obtain ⟨hcz18_0, hcz18_1⟩ := cz2 BK496; obtain ⟨hfz18_0, hfz18_1⟩ := fz2 BK496) | ((with_reducible refine gate_callee (f := 29) rfl ?_); refine goesL_ (some 21) rfl rfl Try.func29 (by kernel_rfl) rfl #[.agg #[.slice A0_0 l0_0.length c0_0, .slice A0_1 l0_1.length c0_1]] rfl gA ?_; (with_reducible refine (laws_toBase.calls k _ _ l0_0 _ _ l0_1 t498 t501 _ ?side1 ?side2 ?side3 ?side4 A10.out).mono ?_); (case side1 => exact cB HR0_0); (case side2 => exact HC0_0.out); (case side3 => exact cB HR0_1); (case side4 => exact HC0_1.out); rintro e w19 ⟨v499, v502, rfl, ho0, ho1, hb⟩; refine ⟨_, rfl, ?_⟩; have n0_ := Aside0.mk (Kd.S_lower ho0 (below_size (w := w) bW)); have n1_ := Aside0.mk (Kd.R_lower ho1 (below_size (w := w) bW)); have n2_ := Aside0.mk (kb BK496 hb); have n3_ := Aside0.mk (below_step (w := w) bW hb); clear BK496; clear HB; have HO500 := n0_; have HO503 := n1_; have BK496 := n2_; have HB := n3_; clear n0_ n1_ n2_ n3_; (try clear hb); (try clear hb2); (try clear hk); (try clear hi); (try clear ho0); (try clear ho1); obtain ⟨Ao20, co20, eo20⟩ := Kd.S_slice HO500.out; subst eo20; obtain ⟨Ao21, co21, eo21⟩ := Kd.R_slice HO503.out; subst eo21) | ((with_reducible refine gate_callee (f := 35) rfl ?_); refine goesL_ (some 23) rfl rfl Try.func35 (by kernel_rfl) rfl #[.agg #[.slice Ao20 t498.length co20, .slice Ao21 t501.length co21], .string a1] rfl gA ?_; (with_reducible refine (spec_OpenSnap.calls k _ _ t498 _ _ t501 a1 t504 t505 t506 _ ?side1 ?side2 ?side3 ?side4 A11.out).mono ?_); (case side1 => repeat (first | exact (Kd.S_reads' HO500.out).2.2 | (with_reducible refine Kd.C_alloc ?_ _) | (with_reducible refine Kd.C_drewN ?_ _) | (with_reducible refine Kd.C_drew ?_))); (case side2 => exact (Kd.S_reads' HO500.out).2.1); (case side3 => repeat (first | exact (Kd.R_reads' HO503.out).2.2 | (with_reducible refine Kd.C_alloc ?_ _) | (with_reducible refine Kd.C_drewN ?_ _) | (with_reducible refine Kd.C_drew ?_))); (case side4 => exact (Kd.R_reads' HO503.out).2.1); rintro e w22 ⟨rfl, hb⟩; refine ⟨_, rfl, ?_⟩; have n0_ := Aside0.mk (Kd.S_below (pS HO500) hb); have n1_ := Aside0.mk (Kd.R_below (pR HO503) hb); have n2_ := Aside0.mk (kb BK496 hb); have n3_ := Aside0.mk (below_step (w := w) bW hb); clear HO500; clear HO503; clear BK496; clear HB; have HO500 := n0_; have HO503 := n1_; have BK496 := n2_; have HB := n3_; clear n0_ n1_ n2_ n3_; (try clear hb); (try clear hb2); (try clear hk); (try clear hi)) | ((with_reducible refine gate_dst (N := 6) rfl ?_); refine bE (N := 6) (cs := #[.string (⟨#[]⟩ : ByteArray), .int .i64 0]) (t := 53) ?_; intro gb507 hg w23 hbox hb; have n0_ := Aside0.mk (Kd.S_below (pS HO500) hb); have n1_ := Aside0.mk (Kd.R_below (pR HO503) hb); have n2_ := Aside0.mk (kb BK496 hb); have n3_ := Aside0.mk (below_step (w := w) bW hb); have n4_ := Aside0.mk (hbox); have n5_ := Aside0.mk (gS (w := w) hg); have n6_ := n5_; have n7_ := Aside0.mk (nL BK496 hg); have n8_ := Aside0.mk (nG BK496 hg); clear HO500; clear HO503; clear BK496; clear HB; have HO500 := n0_; have HO503 := n1_; have BK496 := n2_; have HB := n3_; have BK507 := n4_; have GW507 := n5_; have GE507 := n6_; have NB496_507 := n7_; have NB507_496 := n8_; clear n0_ n1_ n2_ n3_ n4_ n5_ n6_ n7_ n8_; clear hb hbox hg; have hnb24 := NB507_496.out; have hnc24 := NB496_507.out; obtain ⟨hcz25_0, hcz25_1⟩ := cz2 BK507; obtain ⟨hfz25_0, hfz25_1⟩ := fz2 BK507; obtain ⟨hcz26_0, hcz26_1⟩ := cz2 BK496; obtain ⟨hfz26_0, hfz26_1⟩ := fz2 BK496) | ((with_reducible refine gate_callee (f := 29) rfl ?_); refine goesL_ (some 27) rfl rfl Try.func29 (by kernel_rfl) rfl #[.agg #[.slice A0_0 l0_0.length c0_0, .slice A0_1 l0_1.length c0_1]] rfl gA ?_; (with_reducible refine (laws_toBase.calls k _ _ l0_0 _ _ l0_1 t508 t511 _ ?side1 ?side2 ?side3 ?side4 A12.out).mono ?_); (case side1 => exact Kd.C_below HR0_0.out bW); (case side2 => exact HC0_0.out); (case side3 => exact Kd.C_below HR0_1.out bW); (case side4 => exact HC0_1.out); rintro e w27 ⟨v509, v512, rfl, ho0, ho1, hb⟩; refine ⟨_, rfl, ?_⟩; have n0_ := Aside0.mk (Kd.S_elder' (by (with_reducible repeat (first | apply Kd.S_alloc | apply Kd.S_drewN | apply Kd.S_drew)); exact (Kd.S_mono (Kd.S_far (p := ⟨gb507, 1, none⟩) (Kd.S_far (p := ⟨gb507, 0, none⟩) (Kd.S_types HO500.out BK507.out (by decide)) (fun _ hk => hk.2) (.string t504)) (fun _ hk => hk.2) (.int .i64 t505)) (fun _ h_ => h_.1))) (Kd.S_base ho0) hb); have n1_ := Aside0.mk (Kd.R_elder' (by (with_reducible repeat (first | apply Kd.R_alloc | apply Kd.R_drewN | apply Kd.R_drew)); exact (Kd.R_mono (Kd.R_far (p := ⟨gb507, 1, none⟩) (Kd.R_far (p := ⟨gb507, 0, none⟩) (Kd.R_types HO503.out BK507.out (by decide)) (fun _ hk => hk.2) (.string t504)) (fun _ hk => hk.2) (.int .i64 t505)) (fun _ h_ => h_.1))) (Kd.R_base ho1) hb); have n2_ := Aside0.mk (Kd.S_lower (Kd.S_new' ho0 (Kd.S_lt (by (with_reducible repeat (first | apply Kd.S_alloc | apply Kd.S_drewN | apply Kd.S_drew)); exact (Kd.S_mono (Kd.S_far (p := ⟨gb507, 1, none⟩) (Kd.S_far (p := ⟨gb507, 0, none⟩) (Kd.S_types HO500.out BK507.out (by decide)) (fun _ hk => hk.2) (.string t504)) (fun _ hk => hk.2) (.int .i64 t505)) (fun _ h_ => h_.1))))) (below_size (w := w) bW)); have n3_ := Aside0.mk (Kd.R_lower (Kd.R_new' ho1 (Kd.R_lt (by (with_reducible repeat (first | apply Kd.R_alloc | apply Kd.R_drewN | apply Kd.R_drew)); exact (Kd.R_mono (Kd.R_far (p := ⟨gb507, 1, none⟩) (Kd.R_far (p := ⟨gb507, 0, none⟩) (Kd.R_types HO503.out BK507.out (by decide)) (fun _ hk => hk.2) (.string t504)) (fun _ hk => hk.2) (.int .i64 t505)) (fun _ h_ => h_.1))))) (below_size (w := w) bW)); have n4_ := Aside0.mk (blk_below (g := gb496) (o := .cells #[.slice A0_0 l0_0.length c0_0, .slice A0_1 l0_1.length c0_1] 44 (0, 0)) (by (with_reducible repeat (first | refine blk_drewN ?_ _ | refine blk_drew ?_ | refine blk_alloc ?_ _)); refine blk_far ?_ NB496_507.out _; (with_reducible repeat (first | refine blk_drewN ?_ _ | refine blk_drew ?_ | refine blk_alloc ?_ _)); refine blk_far ?_ NB496_507.out _; (with_reducible repeat (first | refine blk_drewN ?_ _ | refine blk_drew ?_ | refine blk_alloc ?_ _)); exact BK496.out) hb); have n5_ := Aside0.mk (blk_below (g := gb507) (o := .cells #[.string t504, .int .i64 t505] 53 (0, 0)) (by (with_reducible repeat (first | refine blk_drewN ?_ _ | refine blk_drew ?_ | refine blk_alloc ?_ _)); refine blk_put (cs := #[.string t504, .int .i64 0]) ?_ 1 _ rfl; (with_reducible repeat (first | refine blk_drewN ?_ _ | refine blk_drew ?_ | refine blk_alloc ?_ _)); refine blk_put (cs := #[.string (⟨#[]⟩ : ByteArray), .int .i64 0]) ?_ 0 _ rfl; (with_reducible repeat (first | refine blk_drewN ?_ _ | refine blk_drew ?_ | refine blk_alloc ?_ _)); exact BK507.out) hb); have n6_ := Aside0.mk (below_step (w := w) bW hb); clear HO500; clear HO503; clear BK496; clear BK507; clear HB; have HO500 := n0_; have HO503 := n1_; have HO510 := n2_; have HO513 := n3_; have BK496 := n4_; have BK507 := n5_; have HB := n6_; clear n0_ n1_ n2_ n3_ n4_ n5_ n6_; (try clear hb); (try clear hb2); (try clear hk); (try clear hi); (try clear ho0); (try clear ho1)) | ((with_reducible refine gate_dst (N := 8) rfl ?_); refine bE (N := 8) (cs := #[.slice none 0 0, .slice none 0 0]) (t := 32) ?_; intro gb514 hg w28 hbox hb; have n0_ := Aside0.mk (Kd.S_below (pS HO500) hb); have n1_ := Aside0.mk (Kd.R_below (pR HO503) hb); have n2_ := Aside0.mk (Kd.S_below (pS HO510) hb); have n3_ := Aside0.mk (Kd.R_below (pR HO513) hb); have n4_ := Aside0.mk (kb BK496 hb); have n5_ := Aside0.mk (kb BK507 hb); have n6_ := Aside0.mk (below_step (w := w) bW hb); have n7_ := Aside0.mk (hbox); have n8_ := Aside0.mk (gS (w := w) hg); have n9_ := n8_; have n10_ := Aside0.mk (nL BK496 hg); have n11_ := Aside0.mk (nG BK496 hg); have n12_ := Aside0.mk (nL BK507 hg); have n13_ := Aside0.mk (nG BK507 hg); clear HO500; clear HO503; clear HO510; clear HO513; clear BK496; clear BK507; clear HB; have HO500 := n0_; have HO503 := n1_; have HO510 := n2_; have HO513 := n3_; have BK496 := n4_; have BK507 := n5_; have HB := n6_; have BK514 := n7_; have GW514 := n8_; have GE514 := n9_; have NB496_514 := n10_; have NB514_496 := n11_; have NB507_514 := n12_; have NB514_507 := n13_; clear n0_ n1_ n2_ n3_ n4_ n5_ n6_ n7_ n8_ n9_ n10_ n11_ n12_ n13_; clear hb hbox hg; obtain ⟨Ao29, co29, eo29⟩ := Kd.S_slice HO510.out; subst eo29; have hnb30 := NB514_496.out; have hnc30 := NB496_514.out; have hnb31 := NB514_507.out; have hnc31 := NB507_514.out; obtain ⟨hcz32_0, hcz32_1⟩ := cz2 BK514; obtain ⟨hfz32_0, hfz32_1⟩ := fz2 BK514; obtain ⟨Ao33, co33, eo33⟩ := Kd.R_slice HO513.out; subst eo33) | ((with_reducible refine gate_callee (f := 36) rfl ?_); refine goesL_ (some 31) rfl rfl Try.func36 (by kernel_rfl) rfl #[.agg #[.slice Ao29 t508.length co29, .slice Ao33 t511.length co33], .string a1] rfl gA ?_; (with_reducible refine (impl_OpenSnap.calls k _ _ t508 _ _ t511 a1 t515 t516 t517 _ ?side1 ?side2 ?side3 ?side4 A13.out).mono ?_); (case side1 => refine (Kd.S_reads' (e := 78) (base := w.heap.size) (ok := fun k_ => (True ∧ some k_ ≠ (.slice Ao20 t498.length co20 : Value).ownBlock)) (n := t508.length) (c := co29) ?_).2.2; exact (by (with_reducible repeat (first | apply Kd.S_alloc | apply Kd.S_drewN | apply Kd.S_drew)); exact (Kd.S_mono (Kd.S_far (p := ⟨gb514, 1, none⟩) (Kd.S_far (p := ⟨gb514, 0, none⟩) (Kd.S_types HO510.out BK514.out (by decide)) (fun _ hk => hk.2) (.slice Ao29 t508.length co29)) (fun _ hk => hk.2) (.slice Ao33 t511.length co33)) (fun _ h_ => h_.1)))); (case side2 => exact (Kd.S_reads' HO510.out).2.1); (case side3 => refine (Kd.R_reads' (e := 92) (base := w.heap.size) (ok := fun k_ => (True ∧ some k_ ≠ (.slice Ao21 t501.length co21 : Value).ownBlock)) (n := t511.length) (c := co33) ?_).2.2; exact (by (with_reducible repeat (first | apply Kd.R_alloc | apply Kd.R_drewN | apply Kd.R_drew)); exact (Kd.R_mono (Kd.R_far (p := ⟨gb514, 1, none⟩) (Kd.R_far (p := ⟨gb514, 0, none⟩) (Kd.R_types HO513.out BK514.out (by decide)) (fun _ hk => hk.2) (.slice Ao29 t508.length co29)) (fun _ hk => hk.2) (.slice Ao33 t511.length co33)) (fun _ h_ => h_.1)))); (case side4 => exact (Kd.R_reads' HO513.out).2.1); rintro e w34 ⟨rfl, hb⟩; refine ⟨_, rfl, ?_⟩; have n0_ := Aside0.mk (Kd.S_below (by (with_reducible repeat (first | apply Kd.S_alloc | apply Kd.S_drewN | apply Kd.S_drew)); exact (Kd.S_mono (Kd.S_far (p := ⟨gb514, 1, none⟩) (Kd.S_far (p := ⟨gb514, 0, none⟩) (Kd.S_types HO500.out BK514.out (by decide)) (fun _ hk => hk.2) (.slice Ao29 t508.length co29)) (fun _ hk => hk.2) (.slice Ao33 t511.length co33)) (fun _ h_ => h_.1))) hb); have n1_ := Aside0.mk (Kd.R_below (by (with_reducible repeat (first | apply Kd.R_alloc | apply Kd.R_drewN | apply Kd.R_drew)); exact (Kd.R_mono (Kd.R_far (p := ⟨gb514, 1, none⟩) (Kd.R_far (p := ⟨gb514, 0, none⟩) (Kd.R_types HO503.out BK514.out (by decide)) (fun _ hk => hk.2) (.slice Ao29 t508.length co29)) (fun _ hk => hk.2) (.slice Ao33 t511.length co33)) (fun _ h_ => h_.1))) hb); have n2_ := Aside0.mk (Kd.S_below (by (with_reducible repeat (first | apply Kd.S_alloc | apply Kd.S_drewN | apply Kd.S_drew)); exact (Kd.S_mono (Kd.S_far (p := ⟨gb514, 1, none⟩) (Kd.S_far (p := ⟨gb514, 0, none⟩) (Kd.S_types HO510.out BK514.out (by decide)) (fun _ hk => hk.2) (.slice Ao29 t508.length co29)) (fun _ hk => hk.2) (.slice Ao33 t511.length co33)) (fun _ h_ => h_.1))) hb); have n3_ := Aside0.mk (Kd.R_below (by (with_reducible repeat (first | apply Kd.R_alloc | apply Kd.R_drewN | apply Kd.R_drew)); exact (Kd.R_mono (Kd.R_far (p := ⟨gb514, 1, none⟩) (Kd.R_far (p := ⟨gb514, 0, none⟩) (Kd.R_types HO513.out BK514.out (by decide)) (fun _ hk => hk.2) (.slice Ao29 t508.length co29)) (fun _ hk => hk.2) (.slice Ao33 t511.length co33)) (fun _ h_ => h_.1))) hb); have n4_ := Aside0.mk (blk_below (g := gb496) (o := .cells #[.slice A0_0 l0_0.length c0_0, .slice A0_1 l0_1.length c0_1] 44 (0, 0)) (by (with_reducible repeat (first | refine blk_drewN ?_ _ | refine blk_drew ?_ | refine blk_alloc ?_ _)); refine blk_far ?_ NB496_514.out _; (with_reducible repeat (first | refine blk_drewN ?_ _ | refine blk_drew ?_ | refine blk_alloc ?_ _)); refine blk_far ?_ NB496_514.out _; (with_reducible repeat (first | refine blk_drewN ?_ _ | refine blk_drew ?_ | refine blk_alloc ?_ _)); exact BK496.out) hb); have n5_ := Aside0.mk (blk_below (g := gb507) (o := .cells #[.string t504, .int .i64 t505] 53 (0, 0)) (by (with_reducible repeat (first | refine blk_drewN ?_ _ | refine blk_drew ?_ | refine blk_alloc ?_ _)); refine blk_far ?_ NB507_514.out _; (with_reducible repeat (first | refine blk_drewN ?_ _ | refine blk_drew ?_ | refine blk_alloc ?_ _)); refine blk_far ?_ NB507_514.out _; (with_reducible repeat (first | refine blk_drewN ?_ _ | refine blk_drew ?_ | refine blk_alloc ?_ _)); exact BK507.out) hb); have n6_ := Aside0.mk (blk_below (g := gb514) (o := .cells #[.slice Ao29 t508.length co29, .slice Ao33 t511.length co33] 32 (0, 0)) (by (with_reducible repeat (first | refine blk_drewN ?_ _ | refine blk_drew ?_ | refine blk_alloc ?_ _)); refine blk_put (cs := #[.slice Ao29 t508.length co29, .slice none 0 0]) ?_ 1 _ rfl; (with_reducible repeat (first | refine blk_drewN ?_ _ | refine blk_drew ?_ | refine blk_alloc ?_ _)); refine blk_put (cs := #[.slice none 0 0, .slice none 0 0]) ?_ 0 _ rfl; (with_reducible repeat (first | refine blk_drewN ?_ _ | refine blk_drew ?_ | refine blk_alloc ?_ _)); exact BK514.out) hb); have n7_ := Aside0.mk (below_step (w := w) bW hb); clear HO500; clear HO503; clear HO510; clear HO513; clear BK496; clear BK507; clear BK514; clear HB; have HO500 := n0_; have HO503 := n1_; have HO510 := n2_; have HO513 := n3_; have BK496 := n4_; have BK507 := n5_; have BK514 := n6_; have HB := n7_; clear n0_ n1_ n2_ n3_ n4_ n5_ n6_ n7_; (try clear hb); (try clear hb2); (try clear hk); (try clear hi)) | ((with_reducible refine gate_dst (N := 9) rfl ?_); refine bE (N := 9) (cs := #[.string (⟨#[]⟩ : ByteArray), .int .i64 0]) (t := 53) ?_; intro gb518 hg w35 hbox hb; have n0_ := Aside0.mk (Kd.S_below (pS HO500) hb); have n1_ := Aside0.mk (Kd.R_below (pR HO503) hb); have n2_ := Aside0.mk (Kd.S_below (pS HO510) hb); have n3_ := Aside0.mk (Kd.R_below (pR HO513) hb); have n4_ := Aside0.mk (kb BK496 hb); have n5_ := Aside0.mk (kb BK507 hb); have n6_ := Aside0.mk (kb BK514 hb); have n7_ := Aside0.mk (below_step (w := w) bW hb); have n8_ := Aside0.mk (hbox); have n9_ := Aside0.mk (gS (w := w) hg); have n10_ := n9_; have n11_ := Aside0.mk (nL BK496 hg); have n12_ := Aside0.mk (nG BK496 hg); have n13_ := Aside0.mk (nL BK507 hg); have n14_ := Aside0.mk (nG BK507 hg); have n15_ := Aside0.mk (nL BK514 hg); have n16_ := Aside0.mk (nG BK514 hg); clear HO500; clear HO503; clear HO510; clear HO513; clear BK496; clear BK507; clear BK514; clear HB; have HO500 := n0_; have HO503 := n1_; have HO510 := n2_; have HO513 := n3_; have BK496 := n4_; have BK507 := n5_; have BK514 := n6_; have HB := n7_; have BK518 := n8_; have GW518 := n9_; have GE518 := n10_; have NB496_518 := n11_; have NB518_496 := n12_; have NB507_518 := n13_; have NB518_507 := n14_; have NB514_518 := n15_; have NB518_514 := n16_; clear n0_ n1_ n2_ n3_ n4_ n5_ n6_ n7_ n8_ n9_ n10_ n11_ n12_ n13_ n14_ n15_ n16_; clear hb hbox hg; have hnb36 := NB518_496.out; have hnc36 := NB496_518.out; have hnb37 := NB518_507.out; have hnc37 := NB507_518.out; have hnb38 := NB518_514.out; have hnc38 := NB514_518.out; obtain ⟨hcz39_0, hcz39_1⟩ := cz2 BK518; obtain ⟨hfz39_0, hfz39_1⟩ := fz2 BK518))
   (try simp only [Act.put, List.setIfInBounds_toArray, List.set_cons_zero, List.set_cons_succ])
   go_cut [42] (fun v42 wc => ∃ (kq : Nat) (x42_13 : Bool), v42 = .bool x42_13 ∧ Aside0 (laws_FnExactOpenSnap.j0 kq x42_13 l0_0 l0_1 t508 t511 = some true) ∧ Aside0 (kq ≤ k) ∧ Aside0 (Kd.S k78 78 wc w.heap.size (fun _ => True) (.slice Ao29 t508.length co29) t508) ∧ Aside0 (Kd.R k92 92 wc w.heap.size (fun _ => True) (.slice Ao33 t511.length co33) t511) ∧ Aside0 (wc.heap[gb496]? = some (.cells #[(.slice A0_0 l0_0.length c0_0), (.slice A0_1 l0_1.length c0_1)] 44 (0, 0))) ∧ Aside0 (wc.heap[gb507]? = some (.cells #[.string t504, .int .i64 t505] 53 (0, 0))) ∧ Aside0 (wc.heap[gb514]? = some (.cells #[(.slice Ao29 t508.length co29), (.slice Ao33 t511.length co33)] 32 (0, 0))) ∧ Aside0 (wc.heap[gb518]? = some (.cells #[.string t515, .int .i64 t516] 53 (0, 0))) ∧ Aside0 (Below w.heap.size w wc))
   case first =>
    have H := HC14.out
    clear HC14
    replace H := Option.bind_eq_some_iff.mp H
    obtain ⟨t519, A400, H⟩ := H
    replace H : (if t519 = true then (laws_FnExactOpenSnap.j0 k (t517 != t506) l0_0 l0_1 t508 t511) else (laws_FnExactOpenSnap.j0 k true l0_0 l0_1 t508 t511)) = some true := H
    have A40 := Aside0.mk A400
    clear A400
    by_cases c41 : t519 = true
    ·subst c41
     have H1 : (laws_FnExactOpenSnap.j0 k (t517 != t506) l0_0 l0_1 t508 t511) = some true := by rw [if_pos rfl] at H; exact H
     clear H
     have H := H1
     clear H1
     have H' := Aside0.mk H
     clear H
     have hnb42 := NB518_496.out
     have hnc42 := NB496_518.out
     have hnb43 := NB518_507.out
     have hnc43 := NB507_518.out
     have hnb44 := NB518_514.out
     have hnc44 := NB514_518.out
     have hcz45_0 : w35.cell? ⟨gb518, 0, none⟩ = some (.string (⟨#[]⟩ : ByteArray)) := (blk_cell BK518.out 0).trans rfl
     have hcz45_1 : w35.cell? ⟨gb518, 1, none⟩ = some (.int .i64 0) := (blk_cell BK518.out 1).trans rfl
     have hfz45_0 := blk_frozen BK518.out 0
     have hfz45_1 := blk_frozen BK518.out 1
     have hnb46 := NB507_496.out
     have hnc46 := NB496_507.out
     have hnb47 := NB507_514.out
     have hnc47 := NB514_507.out
     have hcz48_0 : w35.cell? ⟨gb507, 0, none⟩ = some (.string t504) := (blk_cell BK507.out 0).trans rfl
     have hcz48_1 : w35.cell? ⟨gb507, 1, none⟩ = some (.int .i64 t505) := (blk_cell BK507.out 1).trans rfl
     have hfz48_0 := blk_frozen BK507.out 0
     have hfz48_1 := blk_frozen BK507.out 1
     go_wp2_with (first | ((with_reducible refine gate_callee (f := 37) rfl ?_); refine goesL_ (some 36) rfl rfl Try.func37 (by kernel_rfl) rfl #[.agg #[.string t515, .int .i64 t516], .agg #[.string t504, .int .i64 t505]] rfl gA ?_; (with_reducible refine (laws_eqSnap.calls t515 t516 t504 t505 true _ A40.out).mono ?_); rintro e w49 ⟨rfl, hb⟩; refine ⟨_, rfl, ?_⟩; have n0_ := Aside0.mk (Kd.S_below (by (with_reducible repeat (first | apply Kd.S_alloc | apply Kd.S_drewN | apply Kd.S_drew)); exact (Kd.S_mono (Kd.S_far (p := ⟨gb518, 1, none⟩) (Kd.S_far (p := ⟨gb518, 0, none⟩) (Kd.S_types HO500.out BK518.out (by decide)) (fun _ hk => hk.2) (.string t515)) (fun _ hk => hk.2) (.int .i64 t516)) (fun _ h_ => h_.1))) hb); have n1_ := Aside0.mk (Kd.R_below (by (with_reducible repeat (first | apply Kd.R_alloc | apply Kd.R_drewN | apply Kd.R_drew)); exact (Kd.R_mono (Kd.R_far (p := ⟨gb518, 1, none⟩) (Kd.R_far (p := ⟨gb518, 0, none⟩) (Kd.R_types HO503.out BK518.out (by decide)) (fun _ hk => hk.2) (.string t515)) (fun _ hk => hk.2) (.int .i64 t516)) (fun _ h_ => h_.1))) hb); have n2_ := Aside0.mk (Kd.S_below (by (with_reducible repeat (first | apply Kd.S_alloc | apply Kd.S_drewN | apply Kd.S_drew)); exact (Kd.S_mono (Kd.S_far (p := ⟨gb518, 1, none⟩) (Kd.S_far (p := ⟨gb518, 0, none⟩) (Kd.S_types HO510.out BK518.out (by decide)) (fun _ hk => hk.2) (.string t515)) (fun _ hk => hk.2) (.int .i64 t516)) (fun _ h_ => h_.1))) hb); have n3_ := Aside0.mk (Kd.R_below (by (with_reducible repeat (first | apply Kd.R_alloc | apply Kd.R_drewN | apply Kd.R_drew)); exact (Kd.R_mono (Kd.R_far (p := ⟨gb518, 1, none⟩) (Kd.R_far (p := ⟨gb518, 0, none⟩) (Kd.R_types HO513.out BK518.out (by decide)) (fun _ hk => hk.2) (.string t515)) (fun _ hk => hk.2) (.int .i64 t516)) (fun _ h_ => h_.1))) hb); have n4_ := Aside0.mk (blk_below (g := gb496) (o := .cells #[.slice A0_0 l0_0.length c0_0, .slice A0_1 l0_1.length c0_1] 44 (0, 0)) (by (with_reducible repeat (first | refine blk_drewN ?_ _ | refine blk_drew ?_ | refine blk_alloc ?_ _)); refine blk_far ?_ NB496_518.out _; (with_reducible repeat (first | refine blk_drewN ?_ _ | refine blk_drew ?_ | refine blk_alloc ?_ _)); refine blk_far ?_ NB496_518.out _; (with_reducible repeat (first | refine blk_drewN ?_ _ | refine blk_drew ?_ | refine blk_alloc ?_ _)); exact BK496.out) hb); have n5_ := Aside0.mk (blk_below (g := gb507) (o := .cells #[.string t504, .int .i64 t505] 53 (0, 0)) (by (with_reducible repeat (first | refine blk_drewN ?_ _ | refine blk_drew ?_ | refine blk_alloc ?_ _)); refine blk_far ?_ NB507_518.out _; (with_reducible repeat (first | refine blk_drewN ?_ _ | refine blk_drew ?_ | refine blk_alloc ?_ _)); refine blk_far ?_ NB507_518.out _; (with_reducible repeat (first | refine blk_drewN ?_ _ | refine blk_drew ?_ | refine blk_alloc ?_ _)); exact BK507.out) hb); have n6_ := Aside0.mk (blk_below (g := gb514) (o := .cells #[.slice Ao29 t508.length co29, .slice Ao33 t511.length co33] 32 (0, 0)) (by (with_reducible repeat (first | refine blk_drewN ?_ _ | refine blk_drew ?_ | refine blk_alloc ?_ _)); refine blk_far ?_ NB514_518.out _; (with_reducible repeat (first | refine blk_drewN ?_ _ | refine blk_drew ?_ | refine blk_alloc ?_ _)); refine blk_far ?_ NB514_518.out _; (with_reducible repeat (first | refine blk_drewN ?_ _ | refine blk_drew ?_ | refine blk_alloc ?_ _)); exact BK514.out) hb); have n7_ := Aside0.mk (blk_below (g := gb518) (o := .cells #[.string t515, .int .i64 t516] 53 (0, 0)) (by (with_reducible repeat (first | refine blk_drewN ?_ _ | refine blk_drew ?_ | refine blk_alloc ?_ _)); refine blk_put (cs := #[.string t515, .int .i64 0]) ?_ 1 _ rfl; (with_reducible repeat (first | refine blk_drewN ?_ _ | refine blk_drew ?_ | refine blk_alloc ?_ _)); refine blk_put (cs := #[.string (⟨#[]⟩ : ByteArray), .int .i64 0]) ?_ 0 _ rfl; (with_reducible repeat (first | refine blk_drewN ?_ _ | refine blk_drew ?_ | refine blk_alloc ?_ _)); exact BK518.out) hb); have n8_ := Aside0.mk (below_step (w := w) bW hb); clear HO500; clear HO503; clear HO510; clear HO513; clear BK496; clear BK507; clear BK514; clear BK518; clear HB; have HO500 := n0_; have HO503 := n1_; have HO510 := n2_; have HO513 := n3_; have BK496 := n4_; have BK507 := n5_; have BK514 := n6_; have BK518 := n7_; have HB := n8_; clear n0_ n1_ n2_ n3_ n4_ n5_ n6_ n7_ n8_; (try clear hb); (try clear hb2); (try clear hk); (try clear hi)))
     go_meet
     case rel => exact ⟨_, ((t517 != t506)), vE, H', ⟨by first | omega | exact Nat.le_refl _⟩, ⟨by (with_reducible repeat (first | apply Kd.S_alloc | apply Kd.S_drewN | apply Kd.S_drew)); exact Kd.S_mono HO510.out (fun _ hk => trivial)⟩, ⟨by (with_reducible repeat (first | apply Kd.R_alloc | apply Kd.R_drewN | apply Kd.R_drew)); exact Kd.R_mono HO513.out (fun _ hk => trivial)⟩, ⟨by (with_reducible repeat (first | refine blk_drewN ?_ _ | refine blk_drew ?_ | refine blk_alloc ?_ _)); exact BK496.out⟩, ⟨by (with_reducible repeat (first | refine blk_drewN ?_ _ | refine blk_drew ?_ | refine blk_alloc ?_ _)); exact BK507.out⟩, ⟨by (with_reducible repeat (first | refine blk_drewN ?_ _ | refine blk_drew ?_ | refine blk_alloc ?_ _)); exact BK514.out⟩, ⟨by (with_reducible repeat (first | refine blk_drewN ?_ _ | refine blk_drew ?_ | refine blk_alloc ?_ _)); exact BK518.out⟩, ⟨bW⟩⟩
    ·replace c41 := Bool.eq_false_iff.mpr c41
     subst c41
     have H1 : (laws_FnExactOpenSnap.j0 k true l0_0 l0_1 t508 t511) = some true := by rw [if_neg (show ¬ (false = true) by decide)] at H; exact H
     clear H
     have H := H1
     clear H1
     have H' := Aside0.mk H
     clear H
     have hnb50 := NB518_496.out
     have hnc50 := NB496_518.out
     have hnb51 := NB518_507.out
     have hnc51 := NB507_518.out
     have hnb52 := NB518_514.out
     have hnc52 := NB514_518.out
     have hcz53_0 : w35.cell? ⟨gb518, 0, none⟩ = some (.string (⟨#[]⟩ : ByteArray)) := (blk_cell BK518.out 0).trans rfl
     have hcz53_1 : w35.cell? ⟨gb518, 1, none⟩ = some (.int .i64 0) := (blk_cell BK518.out 1).trans rfl
     have hfz53_0 := blk_frozen BK518.out 0
     have hfz53_1 := blk_frozen BK518.out 1
     have hnb54 := NB507_496.out
     have hnc54 := NB496_507.out
     have hnb55 := NB507_514.out
     have hnc55 := NB514_507.out
     have hcz56_0 : w35.cell? ⟨gb507, 0, none⟩ = some (.string t504) := (blk_cell BK507.out 0).trans rfl
     have hcz56_1 : w35.cell? ⟨gb507, 1, none⟩ = some (.int .i64 t505) := (blk_cell BK507.out 1).trans rfl
     have hfz56_0 := blk_frozen BK507.out 0
     have hfz56_1 := blk_frozen BK507.out 1
     go_wp2_with (first | ((with_reducible refine gate_callee (f := 37) rfl ?_); refine goesL_ (some 36) rfl rfl Try.func37 (by kernel_rfl) rfl #[.agg #[.string t515, .int .i64 t516], .agg #[.string t504, .int .i64 t505]] rfl gA ?_; (with_reducible refine (laws_eqSnap.calls t515 t516 t504 t505 false _ A40.out).mono ?_); rintro e w57 ⟨rfl, hb⟩; refine ⟨_, rfl, ?_⟩; have n0_ := Aside0.mk (Kd.S_below (by (with_reducible repeat (first | apply Kd.S_alloc | apply Kd.S_drewN | apply Kd.S_drew)); exact (Kd.S_mono (Kd.S_far (p := ⟨gb518, 1, none⟩) (Kd.S_far (p := ⟨gb518, 0, none⟩) (Kd.S_types HO500.out BK518.out (by decide)) (fun _ hk => hk.2) (.string t515)) (fun _ hk => hk.2) (.int .i64 t516)) (fun _ h_ => h_.1))) hb); have n1_ := Aside0.mk (Kd.R_below (by (with_reducible repeat (first | apply Kd.R_alloc | apply Kd.R_drewN | apply Kd.R_drew)); exact (Kd.R_mono (Kd.R_far (p := ⟨gb518, 1, none⟩) (Kd.R_far (p := ⟨gb518, 0, none⟩) (Kd.R_types HO503.out BK518.out (by decide)) (fun _ hk => hk.2) (.string t515)) (fun _ hk => hk.2) (.int .i64 t516)) (fun _ h_ => h_.1))) hb); have n2_ := Aside0.mk (Kd.S_below (by (with_reducible repeat (first | apply Kd.S_alloc | apply Kd.S_drewN | apply Kd.S_drew)); exact (Kd.S_mono (Kd.S_far (p := ⟨gb518, 1, none⟩) (Kd.S_far (p := ⟨gb518, 0, none⟩) (Kd.S_types HO510.out BK518.out (by decide)) (fun _ hk => hk.2) (.string t515)) (fun _ hk => hk.2) (.int .i64 t516)) (fun _ h_ => h_.1))) hb); have n3_ := Aside0.mk (Kd.R_below (by (with_reducible repeat (first | apply Kd.R_alloc | apply Kd.R_drewN | apply Kd.R_drew)); exact (Kd.R_mono (Kd.R_far (p := ⟨gb518, 1, none⟩) (Kd.R_far (p := ⟨gb518, 0, none⟩) (Kd.R_types HO513.out BK518.out (by decide)) (fun _ hk => hk.2) (.string t515)) (fun _ hk => hk.2) (.int .i64 t516)) (fun _ h_ => h_.1))) hb); have n4_ := Aside0.mk (blk_below (g := gb496) (o := .cells #[.slice A0_0 l0_0.length c0_0, .slice A0_1 l0_1.length c0_1] 44 (0, 0)) (by (with_reducible repeat (first | refine blk_drewN ?_ _ | refine blk_drew ?_ | refine blk_alloc ?_ _)); refine blk_far ?_ NB496_518.out _; (with_reducible repeat (first | refine blk_drewN ?_ _ | refine blk_drew ?_ | refine blk_alloc ?_ _)); refine blk_far ?_ NB496_518.out _; (with_reducible repeat (first | refine blk_drewN ?_ _ | refine blk_drew ?_ | refine blk_alloc ?_ _)); exact BK496.out) hb); have n5_ := Aside0.mk (blk_below (g := gb507) (o := .cells #[.string t504, .int .i64 t505] 53 (0, 0)) (by (with_reducible repeat (first | refine blk_drewN ?_ _ | refine blk_drew ?_ | refine blk_alloc ?_ _)); refine blk_far ?_ NB507_518.out _; (with_reducible repeat (first | refine blk_drewN ?_ _ | refine blk_drew ?_ | refine blk_alloc ?_ _)); refine blk_far ?_ NB507_518.out _; (with_reducible repeat (first | refine blk_drewN ?_ _ | refine blk_drew ?_ | refine blk_alloc ?_ _)); exact BK507.out) hb); have n6_ := Aside0.mk (blk_below (g := gb514) (o := .cells #[.slice Ao29 t508.length co29, .slice Ao33 t511.length co33] 32 (0, 0)) (by (with_reducible repeat (first | refine blk_drewN ?_ _ | refine blk_drew ?_ | refine blk_alloc ?_ _)); refine blk_far ?_ NB514_518.out _; (with_reducible repeat (first | refine blk_drewN ?_ _ | refine blk_drew ?_ | refine blk_alloc ?_ _)); refine blk_far ?_ NB514_518.out _; (with_reducible repeat (first | refine blk_drewN ?_ _ | refine blk_drew ?_ | refine blk_alloc ?_ _)); exact BK514.out) hb); have n7_ := Aside0.mk (blk_below (g := gb518) (o := .cells #[.string t515, .int .i64 t516] 53 (0, 0)) (by (with_reducible repeat (first | refine blk_drewN ?_ _ | refine blk_drew ?_ | refine blk_alloc ?_ _)); refine blk_put (cs := #[.string t515, .int .i64 0]) ?_ 1 _ rfl; (with_reducible repeat (first | refine blk_drewN ?_ _ | refine blk_drew ?_ | refine blk_alloc ?_ _)); refine blk_put (cs := #[.string (⟨#[]⟩ : ByteArray), .int .i64 0]) ?_ 0 _ rfl; (with_reducible repeat (first | refine blk_drewN ?_ _ | refine blk_drew ?_ | refine blk_alloc ?_ _)); exact BK518.out) hb); have n8_ := Aside0.mk (below_step (w := w) bW hb); clear HO500; clear HO503; clear HO510; clear HO513; clear BK496; clear BK507; clear BK514; clear BK518; clear HB; have HO500 := n0_; have HO503 := n1_; have HO510 := n2_; have HO513 := n3_; have BK496 := n4_; have BK507 := n5_; have BK514 := n6_; have BK518 := n7_; have HB := n8_; clear n0_ n1_ n2_ n3_ n4_ n5_ n6_ n7_ n8_; (try clear hb); (try clear hb2); (try clear hk); (try clear hi)))
     go_meet
     case rel => exact ⟨_, (true), vE, H', ⟨by first | omega | exact Nat.le_refl _⟩, ⟨by (with_reducible repeat (first | apply Kd.S_alloc | apply Kd.S_drewN | apply Kd.S_drew)); exact Kd.S_mono HO510.out (fun _ hk => trivial)⟩, ⟨by (with_reducible repeat (first | apply Kd.R_alloc | apply Kd.R_drewN | apply Kd.R_drew)); exact Kd.R_mono HO513.out (fun _ hk => trivial)⟩, ⟨by (with_reducible repeat (first | refine blk_drewN ?_ _ | refine blk_drew ?_ | refine blk_alloc ?_ _)); exact BK496.out⟩, ⟨by (with_reducible repeat (first | refine blk_drewN ?_ _ | refine blk_drew ?_ | refine blk_alloc ?_ _)); exact BK507.out⟩, ⟨by (with_reducible repeat (first | refine blk_drewN ?_ _ | refine blk_drew ?_ | refine blk_alloc ?_ _)); exact BK514.out⟩, ⟨by (with_reducible repeat (first | refine blk_drewN ?_ _ | refine blk_drew ?_ | refine blk_alloc ?_ _)); exact BK518.out⟩, ⟨bW⟩⟩
   case rest =>
    clear HC14
    try clear c2
    try clear p2
    try clear c3
    try clear c3b0
    try clear c3b1
    try clear c4
    try clear c5
    try clear c6
    try clear c6b0
    try clear c7
    try clear c24
    try clear c27
    try clear c29
    try clear c30
    try clear c31
    try clear c35
    try clear c36
    try clear c37
    try clear c38
    try clear c41
    try clear c42
    try clear c43
    try clear c44
    try clear c46
    try clear c47
    try clear c50
    try clear c51
    try clear c52
    try clear c54
    try clear c55
    try clear hcz16_0
    try clear hcz16_1
    try clear hcz18_0
    try clear hcz18_1
    try clear hcz25_0
    try clear hcz25_1
    try clear hcz26_0
    try clear hcz26_1
    try clear hcz32_0
    try clear hcz32_1
    try clear hcz39_0
    try clear hcz39_1
    try clear hcz45_0
    try clear hcz45_1
    try clear hcz48_0
    try clear hcz48_1
    try clear hcz53_0
    try clear hcz53_1
    try clear hcz56_0
    try clear hcz56_1
    try clear hcz8_0
    try clear hcz8_1
    try clear hfz16_0
    try clear hfz16_1
    try clear hfz18_0
    try clear hfz18_1
    try clear hfz25_0
    try clear hfz25_1
    try clear hfz26_0
    try clear hfz26_1
    try clear hfz32_0
    try clear hfz32_1
    try clear hfz39_0
    try clear hfz39_1
    try clear hfz45_0
    try clear hfz45_1
    try clear hfz48_0
    try clear hfz48_1
    try clear hfz53_0
    try clear hfz53_1
    try clear hfz56_0
    try clear hfz56_1
    try clear hfz8_0
    try clear hfz8_1
    obtain ⟨kq, x42_13, rfl, HA, HJ13, HO_515000, HO_515001, BK496, BK507, BK514, BK518, HB⟩ := hcut
    cases kq with
    | zero => exact absurd HA.out (by simp [laws_FnExactOpenSnap.j0])
    | succ kj13 =>
     have H := HA.out
     clear HA
     simp only [laws_FnExactOpenSnap.j0] at H
     by_cases c58 : x42_13 = true
     ·subst c58
      have H1 : (some false) = some true := by rw [if_pos rfl] at H; exact H
      exact absurd H1 (by simp)
     ·replace c58 := Bool.eq_false_iff.mpr c58
      subst c58
      have H1 : ((laws_toBase.f kj13 l0_0 l0_1).bind fun bt520 => ((laws_eqBase.f kj13 t508 t511 bt520.1 bt520.2).bind fun t526 => (if t526 = true then (some true) else (some false)))) = some true := by rw [if_neg (show ¬ (false = true) by decide)] at H; exact H
      clear H
      have H := H1
      clear H1
      replace H := Option.bind_eq_some_iff.mp H
      obtain ⟨⟨t520, t523⟩, A590, H⟩ := H
      replace H : ((laws_eqBase.f kj13 t508 t511 t520 t523).bind fun t526 => (if t526 = true then (some true) else (some false))) = some true := H
      have A59 := Aside0.mk A590
      clear A590
      replace H := Option.bind_eq_some_iff.mp H
      obtain ⟨t526, A600, H⟩ := H
      replace H : (if t526 = true then (some true) else (some false)) = some true := H
      have A60 := Aside0.mk A600
      clear A600
      by_cases c61 : t526 = true
      ·subst c61
       have H1 : (some true) = some true := rfl
       clear H
       have H := H1
       clear H1
       clear H
       try go_wp2
       have n0_ := Aside0.mk (Kd.S_drew HO_515000.out)
       have n1_ := Aside0.mk (Kd.R_drew HO_515001.out)
       have n2_ := Aside0.mk (blk_drew BK496.out)
       have n3_ := Aside0.mk (blk_drew BK507.out)
       have n4_ := Aside0.mk (blk_drew BK514.out)
       have n5_ := Aside0.mk (blk_drew BK518.out)
       have n6_ := Aside0.mk (below_drew1 HB.out)
       clear HO_515000
       clear HO_515001
       clear BK496
       clear BK507
       clear BK514
       clear BK518
       clear HB
       have HO_515000 := n0_
       have HO_515001 := n1_
       have BK496 := n2_
       have BK507 := n3_
       have BK514 := n4_
       have BK518 := n5_
       have HB := n6_
       clear n0_ n1_ n2_ n3_ n4_ n5_ n6_
       refine start_ (n := 5) (S := fun w' => w'.cell? ⟨gb514, 0, none⟩ = some (.slice Ao29 t508.length co29) ∧ w'.cell? ⟨gb514, 1, none⟩ = some (.slice Ao33 t511.length co33) ∧ w'.cell? ⟨gb496, 0, none⟩ = some (.slice A0_0 l0_0.length c0_0) ∧ w'.cell? ⟨gb496, 1, none⟩ = some (.slice A0_1 l0_1.length c0_1)) (ds := []) #[false, false, false, false, false] (by kernel_rfl) rfl rfl ⟨(blk_cell BK514.out 0).trans rfl, (blk_cell BK514.out 1).trans rfl, (blk_cell BK496.out 0).trans rfl, (blk_cell BK496.out 1).trans rfl⟩ (fun hHeld => ?_)
       generalize wc.drew = w62 at HO_515000 HO_515001 BK496 BK507 BK514 BK518 HB hHeld ⊢
       refine take_ (i := 0) (N := some 43) (v := ?_) (a' := ?_) #[true, false, false, false, false] rfl rfl (by kernel_rfl) (fun _ _ _ h => h) (Or.inl ⟨by rfl, ?_⟩) hHeld ?_ ?_
       rotate_left
       ·rintro w' ⟨s0, s1, s2, s3⟩
        go_simp
        with_reducible rfl
       rotate_left
       ·simp only [Act.put, List.setIfInBounds_toArray, List.set_cons_zero, List.set_cons_succ, i64_w, i32_w]
        rfl
       refine take_ (i := 1) (N := some 44) (v := ?_) (a' := ?_) #[true, true, false, false, false] rfl rfl (by kernel_rfl) (fun _ _ _ h => h) (Or.inl ⟨by rfl, ?_⟩) hHeld ?_ ?_
       rotate_left
       ·rintro w' ⟨s0, s1, s2, s3⟩
        go_simp
        with_reducible rfl
       rotate_left
       ·simp only [Act.put, List.setIfInBounds_toArray, List.set_cons_zero, List.set_cons_succ, i64_w, i32_w]
        rfl
       refine one_ (i := 2) (N := some 45) #[true, true, true, false, false] rfl rfl (by kernel_rfl) (by decide) (fun K hK => ?_)
       refine goes_ Try.func29 (by kernel_rfl) rfl #[.agg #[.slice A0_0 l0_0.length c0_0, .slice A0_1 l0_1.length c0_1]] (by rfl) rfl rfl gA ?_
       with_reducible refine (laws_toBase.calls kj13 _ _ l0_0 _ _ l0_1 t520 t523 _ ?side1 ?side2 ?side3 ?side4 A59.out).mono ?_
       (case side1 => exact cB HR0_0)
       (case side2 => exact HC0_0.out)
       (case side3 => exact cB HR0_1)
       (case side4 => exact HC0_1.out)
       rintro e w63 ⟨v521, v524, rfl, ho0, ho1, hb⟩
       refine ⟨_, rfl, ?_⟩
       have n0_ := Aside0.mk (Kd.S_elder' (pS HO_515000) (Kd.S_base ho0) hb)
       have n1_ := Aside0.mk (Kd.R_elder' (pR HO_515001) (Kd.R_base ho1) hb)
       have n2_ := Aside0.mk (Kd.S_lower (Kd.S_new' ho0 (Kd.S_lt (pS HO_515000))) (below_size (w := w) bW))
       have n3_ := Aside0.mk (Kd.R_lower (Kd.R_new' ho1 (Kd.R_lt (pR HO_515001))) (below_size (w := w) bW))
       have n4_ := Aside0.mk (kb BK496 hb)
       have n5_ := Aside0.mk (kb BK507 hb)
       have n6_ := Aside0.mk (kb BK514 hb)
       have n7_ := Aside0.mk (kb BK518 hb)
       have n8_ := Aside0.mk (below_step (w := w) bW hb)
       clear HO_515000
       clear HO_515001
       clear BK496
       clear BK507
       clear BK514
       clear BK518
       clear HB
       have HO_515000 := n0_
       have HO_515001 := n1_
       have HO522 := n2_
       have HO525 := n3_
       have BK496 := n4_
       have BK507 := n5_
       have BK514 := n6_
       have BK518 := n7_
       have HB := n8_
       clear n0_ n1_ n2_ n3_ n4_ n5_ n6_ n7_ n8_
       (try clear hb)
       (try clear hb2)
       (try clear hk)
       (try clear hi)
       (try clear ho0)
       (try clear ho1)
       obtain ⟨Ao64, co64, eo64⟩ := Kd.S_slice HO522.out
       (first | subst eo64 | (injection eo64 with f1_ f2_ f3_; have f4_ := f1_.symm; have f5_ := f3_.symm; clear f1_ f2_ f3_; subst f4_; subst f5_))
       obtain ⟨Ao65, co65, eo65⟩ := Kd.R_slice HO525.out
       (first | subst eo65 | (injection eo65 with f1_ f2_ f3_; have f4_ := f1_.symm; have f5_ := f3_.symm; clear f1_ f2_ f3_; subst f4_; subst f5_))
       refine hK.out _ _ ⟨(blk_cell BK514.out 0).trans rfl, (blk_cell BK514.out 1).trans rfl, (blk_cell BK496.out 0).trans rfl, (blk_cell BK496.out 1).trans rfl⟩ (fun hHeld => ?_)
       clear hK K
       refine norm_ (a' := ?_) ?_ ?_
       rotate_left
       ·show Act.put _ (some 45) _ = _
        simp only [Act.put, List.setIfInBounds_toArray, List.set_cons_zero, List.set_cons_succ, i64_w, i32_w]
        rfl
       refine one_ (i := 3) (N := some 46) #[true, true, true, true, false] rfl rfl (by kernel_rfl) (by decide) (fun K hK => ?_)
       refine goes_ Try.func22 (by kernel_rfl) rfl #[.agg #[.slice Ao29 t508.length co29, .slice Ao33 t511.length co33], .agg #[.slice Ao64 t520.length co64, .slice Ao65 t523.length co65]] (by rfl) rfl rfl gA ?_
       with_reducible refine (laws_eqBase.calls kj13 _ _ t508 _ _ t511 _ _ t520 _ _ t523 true _ ?side1 ?side2 ?side3 ?side4 ?side5 ?side6 ?side7 ?side8 A60.out).mono ?_
       (case side1 => repeat (first | exact (Kd.S_reads' HO_515000.out).2.2 | (with_reducible refine Kd.C_alloc ?_ _) | (with_reducible refine Kd.C_drewN ?_ _) | (with_reducible refine Kd.C_drew ?_)))
       (case side2 => exact (Kd.S_reads' HO_515000.out).2.1)
       (case side3 => repeat (first | exact (Kd.R_reads' HO_515001.out).2.2 | (with_reducible refine Kd.C_alloc ?_ _) | (with_reducible refine Kd.C_drewN ?_ _) | (with_reducible refine Kd.C_drew ?_)))
       (case side4 => exact (Kd.R_reads' HO_515001.out).2.1)
       (case side5 => repeat (first | exact (Kd.S_reads' HO522.out).2.2 | (with_reducible refine Kd.C_alloc ?_ _) | (with_reducible refine Kd.C_drewN ?_ _) | (with_reducible refine Kd.C_drew ?_)))
       (case side6 => exact (Kd.S_reads' HO522.out).2.1)
       (case side7 => repeat (first | exact (Kd.R_reads' HO525.out).2.2 | (with_reducible refine Kd.C_alloc ?_ _) | (with_reducible refine Kd.C_drewN ?_ _) | (with_reducible refine Kd.C_drew ?_)))
       (case side8 => exact (Kd.R_reads' HO525.out).2.1)
       rintro e w66 ⟨rfl, hb⟩
       refine ⟨_, rfl, ?_⟩
       have n0_ := Aside0.mk (Kd.S_below (pS HO_515000) hb)
       have n1_ := Aside0.mk (Kd.R_below (pR HO_515001) hb)
       have n2_ := Aside0.mk (Kd.S_below (pS HO522) hb)
       have n3_ := Aside0.mk (Kd.R_below (pR HO525) hb)
       have n4_ := Aside0.mk (kb BK496 hb)
       have n5_ := Aside0.mk (kb BK507 hb)
       have n6_ := Aside0.mk (kb BK514 hb)
       have n7_ := Aside0.mk (kb BK518 hb)
       have n8_ := Aside0.mk (below_step (w := w) bW hb)
       clear HO_515000
       clear HO_515001
       clear HO522
       clear HO525
       clear BK496
       clear BK507
       clear BK514
       clear BK518
       clear HB
       have HO_515000 := n0_
       have HO_515001 := n1_
       have HO522 := n2_
       have HO525 := n3_
       have BK496 := n4_
       have BK507 := n5_
       have BK514 := n6_
       have BK518 := n7_
       have HB := n8_
       clear n0_ n1_ n2_ n3_ n4_ n5_ n6_ n7_ n8_
       (try clear hb)
       (try clear hb2)
       (try clear hk)
       (try clear hi)
       refine hK.out _ _ ⟨(blk_cell BK514.out 0).trans rfl, (blk_cell BK514.out 1).trans rfl, (blk_cell BK496.out 0).trans rfl, (blk_cell BK496.out 1).trans rfl⟩ (fun hHeld => ?_)
       clear hK K
       refine norm_ (a' := ?_) ?_ ?_
       rotate_left
       ·show Act.put _ (some 46) _ = _
        simp only [Act.put, List.setIfInBounds_toArray, List.set_cons_zero, List.set_cons_succ, i64_w, i32_w]
        rfl
       refine pure_ (i := 4) (N := some 47) (v := ?_) (a' := ?_) #[true, true, true, true, true] rfl rfl (by kernel_rfl) (fun _ _ _ h => h) (Or.inl ⟨by rfl, ?_⟩) ?_ ?_
       rotate_left
       ·intro w'
        go_simp
        with_reducible rfl
       rotate_left
       ·simp only [Act.put, List.setIfInBounds_toArray, List.set_cons_zero, List.set_cons_succ, i64_w, i32_w]
        rfl
       refine done_ (by kernel_rfl) ?_
       try go_wp2
       go_ret
       exact ⟨rE, bW⟩
      ·replace c61 := Bool.eq_false_iff.mpr c61
       subst c61
       have H1 : (some false) = some true := by rw [if_neg (show ¬ (false = true) by decide)] at H; exact H
       exact absurd H1 (by simp)
end Go.Proofs.Ytekoaaiemmblgaa.Q
end

section
namespace Go.Proofs.Ytekoaaiemmblgaa.Q
open Go.RowKit Go.Proofs.YtekoaaiemmblgaaW.PrintWords Go.Proofs.YtekoaaiemmblgaaW.PrintLast Go.Proofs.YtekoaaiemmblgaaW.PrintMore
attribute [local go_sem] max2_int min2_int max_two min_two max_three min_three max_four min_four   -- for this text's walks alone
set_option linter.unusedVariables false
set_option linter.unusedSimpArgs false
attribute [local go_sem] bin_leq bin_gtr bin_geq
def Opens {α : Type} (P : Program) (d : Kd α) (t : TypeId) (G : α → Prop) : Prop :=
  P.cellsOf t = d.sz ∧ ∀ {H : Type} (enc : TypeId × Value → H) (w : World) (base : Nat) (spare : Nat → Bool) (held : Bool) (fuel : Nat) (cs : List Value) (x : DataW H × List MemPlace),
    DataW.trod enc P w base spare held fuel t cs = some x → ∃ v, d.K w v cs ∧ G v
theorem add_twice (a : Addr) (m i : Nat) : (a.add m).add i = a.add (m + i) := by
  unfold Addr.add
  by_cases h1 : m = 0 <;> by_cases h2 : i = 0 <;> simp_all [Nat.add_assoc]
theorem opens_int {P : Program} {t : TypeId} {k : IntKind} (ht : P.underlying t = some (.int k)) (hc : P.cellsOf t = 1) : Opens P (Kd.int k) t (fun n => (Lit.int k n).wf = true) := by
  refine ⟨hc, fun enc w base spare held fuel cs x h => ?_⟩
  cases fuel with
  | zero => simp [DataW.trod] at h
  | succ n =>
    unfold DataW.trod at h
    rw [ht] at h
    split at h <;> simp_all
    obtain ⟨⟨rfl, h1⟩, _⟩ := h
    exact ⟨_, rfl, h1⟩
theorem opens_bool {P : Program} {t : TypeId} (ht : P.underlying t = some .bool) (hc : P.cellsOf t = 1) : Opens P Kd.bool t (fun _ => True) := by
  refine ⟨hc, fun enc w base spare held fuel cs x h => ?_⟩
  cases fuel with
  | zero => simp [DataW.trod] at h
  | succ n =>
    unfold DataW.trod at h
    rw [ht] at h
    split at h <;> simp_all
    rename_i b
    cases b
    · exact .inl rfl
    · exact .inr rfl
theorem opens_string {P : Program} {t : TypeId} (ht : P.underlying t = some .string) (hc : P.cellsOf t = 1) : Opens P Kd.string t (fun s => s.size ≤ 9223372036854775807) := by
  refine ⟨hc, fun enc w base spare held fuel cs x h => ?_⟩
  cases fuel with
  | zero => simp [DataW.trod] at h
  | succ n =>
    unfold DataW.trod at h
    rw [ht] at h
    split at h <;> simp_all
    exact ⟨_, rfl, h.1⟩
theorem list_of {α : Type} {Q : Nat → α → Prop} : ∀ n, (∀ i, i < n → ∃ v, Q i v) → ∃ l : List α, l.length = n ∧ ∀ i v, l[i]? = some v → Q i v
  | 0, _ => ⟨[], rfl, fun i v h => by simp at h⟩
  | n + 1, h => by
    obtain ⟨l, hl, hq⟩ := list_of n (fun i hi => h i (by omega))
    obtain ⟨v, hv⟩ := h n (by omega)
    refine ⟨l ++ [v], by simp [hl], fun i u hu => ?_⟩
    by_cases hi : i < l.length
    · rw [List.getElem?_append_left hi] at hu
      exact hq i u hu
    · have hi2 : i = l.length := by
        have := (List.getElem?_eq_some_iff.1 hu).1
        rw [List.length_append, List.length_singleton] at this
        omega
      subst hi2
      have hu' : v = u := by simpa using hu
      subst hu'
      rw [hl]
      exact hv
theorem opens_slice {α : Type} {P : Program} {d : Kd α} {t e : TypeId} {G : α → Prop} (ht : P.underlying t = some (.slice e)) (hc : P.cellsOf t = 1) (O : Opens P d e G) :
    Opens P (Kd.slice e d) t (fun l => l.length ≤ 9223372036854775807 ∧ ∀ x, x ∈ l → G x) := by
  refine ⟨hc, fun enc w base spare held fuel cs x h => ?_⟩
  rcases DataW.trod_slice ht h with ⟨rfl, _⟩ | ⟨a, len, cap, elems, rest, n, _, rfl, _, hb, hl, hm, hlen, hel, _, _⟩
  · exact ⟨[], ⟨none, 0, rfl, Nat.le_refl _, Kd.C_nil d w⟩, by simp, fun x hx => by simp at hx⟩
  · have each : ∀ i, i < len → ∃ v : α, (∃ c, c.length = d.sz ∧ d.K w v c ∧ ∀ j u, c[j]? = some u → w.cell? (a.add (i * d.sz + j)) = some u) ∧ G v := by
      intro i hi
      have h1 := hel i hi
      have h2 : elems[i]? = some (elems[i]'(by omega)) := List.getElem?_eq_getElem (by omega)
      rw [h2, Option.bind_eq_some_iff] at h1
      obtain ⟨c, hcc, htr⟩ := h1
      obtain ⟨v, hK, hG⟩ := O.2 enc w base spare held n c _ htr
      obtain ⟨_, hcl, hcells⟩ := World.cells?_some hcc
      refine ⟨v, ⟨c, d.K_len hK, hK, fun j u hu => ?_⟩, hG⟩
      have hj : j < c.length := (List.getElem?_eq_some_iff.1 hu).1
      have := hcells j (by omega)
      rw [hu, add_twice, O.1] at this
      exact this
    obtain ⟨l, hll, hq⟩ := list_of len each
    refine ⟨l, ⟨some a, cap, by rw [hll], by omega, hll ▸ ?_⟩, by unfold maxLen at hm; omega, fun x hx => ?_⟩
    · refine ⟨hll, by unfold maxLen at hm; omega, fun hp => ⟨a, rfl, fun j p hj => ?_⟩⟩
      obtain ⟨c, h1, h2, h3⟩ := (hq j p hj).1
      exact ⟨c, h1, h2, h3⟩
    · obtain ⟨i, hi, rfl⟩ := List.mem_iff_getElem.mp hx
      exact (hq i _ (List.getElem?_eq_getElem hi)).2
end Go.Proofs.Ytekoaaiemmblgaa.Q
end

section
namespace Go.Proofs.Ytekoaaiemmblgaa.Q
open Go.RowKit Go.Proofs.YtekoaaiemmblgaaW.PrintWords Go.Proofs.YtekoaaiemmblgaaW.PrintLast Go.Proofs.YtekoaaiemmblgaaW.PrintMore
attribute [local go_sem] max2_int min2_int max_two min_two max_three min_three max_four min_four   -- for this text's walks alone
set_option linter.unusedVariables false
set_option linter.unusedSimpArgs false
attribute [local go_sem] bin_leq bin_gtr bin_geq
def good84 (x : S84) : Prop := (fun s => s.size ≤ 9223372036854775807) x.f0 ∧ (fun n => (Lit.int .i64 n).wf = true) x.f1
set_option maxRecDepth 100000 in
theorem opens_84 : Opens Try.prog k84 84 good84 := by
  refine ⟨by kernel_rfl, fun enc w base spare held fuel cs x h => ?_⟩
  obtain ⟨xs, n, _, _, hcl, hxl, hf⟩ := DataW.trod_struct Try.underlying84 h
  have hcl2 : cs.length = 2 := hcl.trans (by kernel_rfl)
  obtain ⟨c0, c1, rfl⟩ : ∃ c0 c1, cs = [c0, c1] := by
    match cs, hcl2 with
    | [c0, c1], _ => exact ⟨c0, c1, rfl⟩
  have h0 := hf 0 _ rfl
  rw [List.getElem?_eq_getElem (show 0 < xs.length by rw [hxl]; decide)] at h0
  obtain ⟨v0, K0, G0⟩ := (opens_string Try.underlying9 (by kernel_rfl)).2 enc w base spare held n [c0] _ ((show DataW.trod enc Try.prog w base spare held n 9 [c0] = _ from (by first | exact h0 | (rw [show Try.prog.cellsOf 9 = 1 by kernel_rfl] at h0; exact h0))))
  have h1 := hf 1 _ rfl
  rw [List.getElem?_eq_getElem (show 1 < xs.length by rw [hxl]; decide)] at h1
  obtain ⟨v1, K1, G1⟩ := (opens_int (k := .i64) Try.underlying3 (by kernel_rfl)).2 enc w base spare held n [c1] _ ((show DataW.trod enc Try.prog w base spare held n 3 [c1] = _ from (by first | exact h1 | (rw [show Try.prog.cellsOf 3 = 1 by kernel_rfl] at h1; exact h1))))
  exact ⟨⟨v0, v1⟩, ⟨[c0], [c1], rfl, K0, K1⟩, ⟨G0, G1⟩⟩
end Go.Proofs.Ytekoaaiemmblgaa.Q
end

section
namespace Go.Proofs.Ytekoaaiemmblgaa.Q
open Go.RowKit Go.Proofs.YtekoaaiemmblgaaW.PrintWords Go.Proofs.YtekoaaiemmblgaaW.PrintLast Go.Proofs.YtekoaaiemmblgaaW.PrintMore
attribute [local go_sem] max2_int min2_int max_two min_two max_three min_three max_four min_four   -- for this text's walks alone
set_option linter.unusedVariables false
set_option linter.unusedSimpArgs false
attribute [local go_sem] bin_leq bin_gtr bin_geq
def good75 (x : S75) : Prop := (fun l => l.length ≤ 9223372036854775807 ∧ ∀ x, x ∈ l → (fun n => (Lit.int .i64 n).wf = true) x) x.f0 ∧ (fun l => l.length ≤ 9223372036854775807 ∧ ∀ x, x ∈ l → good84 x) x.f1
set_option maxRecDepth 100000 in
theorem opens_75 : Opens Try.prog k75 75 good75 := by
  refine ⟨by kernel_rfl, fun enc w base spare held fuel cs x h => ?_⟩
  obtain ⟨xs, n, _, _, hcl, hxl, hf⟩ := DataW.trod_struct Try.underlying75 h
  have hcl2 : cs.length = 2 := hcl.trans (by kernel_rfl)
  obtain ⟨c0, c1, rfl⟩ : ∃ c0 c1, cs = [c0, c1] := by
    match cs, hcl2 with
    | [c0, c1], _ => exact ⟨c0, c1, rfl⟩
  have h0 := hf 0 _ rfl
  rw [List.getElem?_eq_getElem (show 0 < xs.length by rw [hxl]; decide)] at h0
  obtain ⟨v0, K0, G0⟩ := (opens_slice Try.underlying64 (by kernel_rfl) (opens_int (k := .i64) Try.underlying3 (by kernel_rfl))).2 enc w base spare held n [c0] _ ((show DataW.trod enc Try.prog w base spare held n 64 [c0] = _ from (by first | exact h0 | (rw [show Try.prog.cellsOf 64 = 1 by kernel_rfl] at h0; exact h0))))
  have h1 := hf 1 _ rfl
  rw [List.getElem?_eq_getElem (show 1 < xs.length by rw [hxl]; decide)] at h1
  obtain ⟨v1, K1, G1⟩ := (opens_slice Try.underlying28 (by kernel_rfl) opens_84).2 enc w base spare held n [c1] _ ((show DataW.trod enc Try.prog w base spare held n 28 [c1] = _ from (by first | exact h1 | (rw [show Try.prog.cellsOf 28 = 1 by kernel_rfl] at h1; exact h1))))
  exact ⟨⟨v0, v1⟩, ⟨[c0], [c1], rfl, K0, K1⟩, ⟨G0, G1⟩⟩
end Go.Proofs.Ytekoaaiemmblgaa.Q
end

section
namespace Go.Proofs.Ytekoaaiemmblgaa.Q
open Go.RowKit Go.Proofs.YtekoaaiemmblgaaW.PrintWords Go.Proofs.YtekoaaiemmblgaaW.PrintLast Go.Proofs.YtekoaaiemmblgaaW.PrintMore
attribute [local go_sem] max2_int min2_int max_two min_two max_three min_three max_four min_four   -- for this text's walks alone
set_option linter.unusedVariables false
set_option linter.unusedSimpArgs false
attribute [local go_sem] bin_leq bin_gtr bin_geq
def good118 (x : S118) : Prop := (fun s => s.size ≤ 9223372036854775807) x.f0 ∧ (fun n => (Lit.int .i64 n).wf = true) x.f1 ∧ (fun n => (Lit.int .i64 n).wf = true) x.f2 ∧ (fun _ => True) x.f3
set_option maxRecDepth 100000 in
theorem opens_118 : Opens Try.prog k118 118 good118 := by
  refine ⟨by kernel_rfl, fun enc w base spare held fuel cs x h => ?_⟩
  obtain ⟨xs, n, _, _, hcl, hxl, hf⟩ := DataW.trod_struct Try.underlying118 h
  have hcl2 : cs.length = 4 := hcl.trans (by kernel_rfl)
  obtain ⟨c0, c1, c2, c3, rfl⟩ : ∃ c0 c1 c2 c3, cs = [c0, c1, c2, c3] := by
    match cs, hcl2 with
    | [c0, c1, c2, c3], _ => exact ⟨c0, c1, c2, c3, rfl⟩
  have h0 := hf 0 _ rfl
  rw [List.getElem?_eq_getElem (show 0 < xs.length by rw [hxl]; decide)] at h0
  obtain ⟨v0, K0, G0⟩ := (opens_string Try.underlying9 (by kernel_rfl)).2 enc w base spare held n [c0] _ ((show DataW.trod enc Try.prog w base spare held n 9 [c0] = _ from (by first | exact h0 | (rw [show Try.prog.cellsOf 9 = 1 by kernel_rfl] at h0; exact h0))))
  have h1 := hf 1 _ rfl
  rw [List.getElem?_eq_getElem (show 1 < xs.length by rw [hxl]; decide)] at h1
  obtain ⟨v1, K1, G1⟩ := (opens_int (k := .i64) Try.underlying3 (by kernel_rfl)).2 enc w base spare held n [c1] _ ((show DataW.trod enc Try.prog w base spare held n 3 [c1] = _ from (by first | exact h1 | (rw [show Try.prog.cellsOf 3 = 1 by kernel_rfl] at h1; exact h1))))
  have h2 := hf 2 _ rfl
  rw [List.getElem?_eq_getElem (show 2 < xs.length by rw [hxl]; decide)] at h2
  obtain ⟨v2, K2, G2⟩ := (opens_int (k := .i64) Try.underlying3 (by kernel_rfl)).2 enc w base spare held n [c2] _ ((show DataW.trod enc Try.prog w base spare held n 3 [c2] = _ from (by first | exact h2 | (rw [show Try.prog.cellsOf 3 = 1 by kernel_rfl] at h2; exact h2))))
  have h3 := hf 3 _ rfl
  rw [List.getElem?_eq_getElem (show 3 < xs.length by rw [hxl]; decide)] at h3
  obtain ⟨v3, K3, G3⟩ := (opens_bool Try.underlying4 (by kernel_rfl)).2 enc w base spare held n [c3] _ ((show DataW.trod enc Try.prog w base spare held n 4 [c3] = _ from (by first | exact h3 | (rw [show Try.prog.cellsOf 4 = 1 by kernel_rfl] at h3; exact h3))))
  exact ⟨⟨v0, v1, v2, v3⟩, ⟨[c0], [c1, c2, c3], rfl, K0, ⟨[c1], [c2, c3], rfl, K1, ⟨[c2], [c3], rfl, K2, K3⟩⟩⟩, ⟨G0, G1, G2, G3⟩⟩
end Go.Proofs.Ytekoaaiemmblgaa.Q
end

section
namespace Go.Proofs.Ytekoaaiemmblgaa.Q
open Go.RowKit Go.Proofs.YtekoaaiemmblgaaW.PrintWords Go.Proofs.YtekoaaiemmblgaaW.PrintLast Go.Proofs.YtekoaaiemmblgaaW.PrintMore
attribute [local go_sem] max2_int min2_int max_two min_two max_three min_three max_four min_four   -- for this text's walks alone
set_option linter.unusedVariables false
set_option linter.unusedSimpArgs false
attribute [local go_sem] bin_leq bin_gtr bin_geq
def good44 (x : S44) : Prop := (fun l => l.length ≤ 9223372036854775807 ∧ ∀ x, x ∈ l → good75 x) x.f0 ∧ (fun l => l.length ≤ 9223372036854775807 ∧ ∀ x, x ∈ l → good118 x) x.f1
set_option maxRecDepth 100000 in
theorem opens_44 : Opens Try.prog k44 44 good44 := by
  refine ⟨by kernel_rfl, fun enc w base spare held fuel cs x h => ?_⟩
  obtain ⟨xs, n, _, _, hcl, hxl, hf⟩ := DataW.trod_struct Try.underlying44 h
  have hcl2 : cs.length = 2 := hcl.trans (by kernel_rfl)
  obtain ⟨c0, c1, rfl⟩ : ∃ c0 c1, cs = [c0, c1] := by
    match cs, hcl2 with
    | [c0, c1], _ => exact ⟨c0, c1, rfl⟩
  have h0 := hf 0 _ rfl
  rw [List.getElem?_eq_getElem (show 0 < xs.length by rw [hxl]; decide)] at h0
  obtain ⟨v0, K0, G0⟩ := (opens_slice Try.underlying22 (by kernel_rfl) opens_75).2 enc w base spare held n [c0] _ ((show DataW.trod enc Try.prog w base spare held n 22 [c0] = _ from (by first | exact h0 | (rw [show Try.prog.cellsOf 22 = 1 by kernel_rfl] at h0; exact h0))))
  have h1 := hf 1 _ rfl
  rw [List.getElem?_eq_getElem (show 1 < xs.length by rw [hxl]; decide)] at h1
  obtain ⟨v1, K1, G1⟩ := (opens_slice Try.underlying42 (by kernel_rfl) opens_118).2 enc w base spare held n [c1] _ ((show DataW.trod enc Try.prog w base spare held n 42 [c1] = _ from (by first | exact h1 | (rw [show Try.prog.cellsOf 42 = 1 by kernel_rfl] at h1; exact h1))))
  exact ⟨⟨v0, v1⟩, ⟨[c0], [c1], rfl, K0, K1⟩, ⟨G0, G1⟩⟩
end Go.Proofs.Ytekoaaiemmblgaa.Q
end

section
namespace Go.Proofs.Ytekoaaiemmblgaa.Q
open Go.RowKit Go.Proofs.YtekoaaiemmblgaaW.PrintWords Go.Proofs.YtekoaaiemmblgaaW.PrintLast Go.Proofs.YtekoaaiemmblgaaW.PrintMore
attribute [local go_sem] max2_int min2_int max_two min_two max_three min_three max_four min_four   -- for this text's walks alone
set_option linter.unusedVariables false
set_option linter.unusedSimpArgs false
attribute [local go_sem] bin_leq bin_gtr bin_geq
def laws_FnExactOpenSnap.Pure : Prop := ∀ (l0_0 : List (S75)) (l0_1 : List (S118)) (a1 : ByteArray), good44 (⟨l0_0, l0_1⟩ : S44) → a1.size ≤ 140737488351232 → ∃ k, laws_FnExactOpenSnap.f k l0_0 l0_1 a1 = some true
theorem laws_FnExactOpenSnap.walk (P : laws_FnExactOpenSnap.Pure) (A0_0 : Option Addr) (c0_0 : Nat) (l0_0 : List (S75)) (A0_1 : Option Addr) (c0_1 : Nat) (l0_1 : List (S118)) (a1 : ByteArray) (w : World) (w0 : good44 (⟨l0_0, l0_1⟩ : S44)) (w1 : a1.size ≤ 140737488351232) (hr0_0 : Kd.C k75 w A0_0 l0_0.length l0_0) (hc0_0 : l0_0.length ≤ c0_0) (hr0_1 : Kd.C k118 w A0_1 l0_1.length l0_1) (hc0_1 : l0_1.length ≤ c0_1) :
    Calls Try.prog 7 #[.agg #[.slice A0_0 l0_0.length c0_0, .slice A0_1 l0_1.length c0_1], .string a1] w fun e w' => e = .returned (.bool true) ∧ Below w.heap.size w w' := by
  obtain ⟨k, hk⟩ := P l0_0 l0_1 a1 w0 w1
  exact (laws_FnExactOpenSnap.calls k A0_0 c0_0 l0_0 A0_1 c0_1 l0_1 a1 w hr0_0 hc0_0 hr0_1 hc0_1 hk).mono fun e w' h => ⟨h.1, h.2⟩
end Go.Proofs.Ytekoaaiemmblgaa.Q
end

section
namespace Go.Proofs.Ytekoaaiemmblgaa.Q
open Go.RowKit Go.Proofs.YtekoaaiemmblgaaW.PrintWords Go.Proofs.YtekoaaiemmblgaaW.PrintLast Go.Proofs.YtekoaaiemmblgaaW.PrintMore
attribute [local go_sem] max2_int min2_int max_two min_two max_three min_three max_four min_four   -- for this text's walks alone
set_option linter.unusedVariables false
set_option linter.unusedSimpArgs false
attribute [local go_sem] bin_leq bin_gtr bin_geq
theorem ev_map_loop {α β : Type} {L : Nat → List α → List β → Int → Option (List β)} {g : Nat → α → Option β} {cv : α → β} {z : α}
    (step : ∀ k xs acc i, L (k + 1) xs acc i = if i < (xs.length : Int) then (if 0 ≤ i then ((g k (xs.getD i.toNat z)).bind fun y => (if i < (acc.length : Int) then (L k xs (acc.set i.toNat y) (wrap64 (i + 1))) else none)) else none) else some acc)
    (xs : List α) (hlen : xs.length ≤ 4611686018427387904) (hg : ∀ x, x ∈ xs → Ev (fun k => g k x) (cv x)) (acc : List β) (ha : acc.length = xs.length) : Ev (fun k => L k xs acc 0) (xs.map cv) := by
  have key : ∀ d (i : Nat) (acc : List β), i + d = xs.length → acc.length = xs.length → Ev (fun k => L k xs acc (i : Int)) (acc.take i ++ (xs.drop i).map cv) := by
    intro d
    induction d with
    | zero =>
      intro i acc hi ha
      refine Ev.step (f := fun _ => some acc) (fun k => by rw [step, if_neg (by omega)]) ?_
      rw [List.take_of_length_le (by omega), List.drop_eq_nil_of_le (by omega)]
      simpa using Ev.now acc
    | succ d ih =>
      intro i acc hi ha
      have hl : i < xs.length := by omega
      have hw : wrap64 ((i : Int) + 1) = ((i + 1 : Nat) : Int) := by unfold wrap64; omega
      have hx : xs.getD ((i : Int).toNat) z = xs[i] := by simp [List.getD_eq_getElem?_getD, List.getElem?_eq_getElem hl]
      refine Ev.step (f := fun k => (g k xs[i]).bind fun y => L k xs (acc.set i y) ((i + 1 : Nat) : Int)) (fun k => ?_) ?_
      · rw [step, if_pos (by omega), if_pos (by omega), hx, hw]
        congr 1
        funext y
        rw [if_pos (by omega)]
        simp
      · have h2 := ih (i + 1) (acc.set i (cv xs[i])) (by omega) (by simpa using ha)
        have e : (acc.set i (cv xs[i])).take (i + 1) ++ (xs.drop (i + 1)).map cv = acc.take i ++ (xs.drop i).map cv := by
          rw [List.drop_eq_getElem_cons hl, List.map_cons, List.take_succ_eq_append_getElem (by simpa using (show i < acc.length by omega)), List.take_set_of_le (by omega)]
          simp
        rw [e] at h2
        exact Ev.bind (hg _ (List.getElem_mem hl)) h2
  have h := key xs.length 0 acc (by omega) ha
  simpa using h
theorem ev_refl_loop {α : Type} {L : Nat → List α → List α → Int → Option Bool} {g : Nat → α → α → Option Bool} {z : α}
    (step : ∀ k xs ys i, L (k + 1) xs ys i = if i < (xs.length : Int) then (if 0 ≤ i then (if i < (ys.length : Int) then ((g k (xs.getD i.toNat z) (ys.getD i.toNat z)).bind fun t => (if t = true then L k xs ys (wrap64 (i + 1)) else some false)) else none) else none) else some true)
    (xs : List α) (hlen : xs.length ≤ 4611686018427387904) (hg : ∀ x, x ∈ xs → Ev (fun k => g k x x) true) : Ev (fun k => L k xs xs 0) true := by
  have key : ∀ d (i : Nat), i + d = xs.length → Ev (fun k => L k xs xs (i : Int)) true := by
    intro d
    induction d with
    | zero =>
      intro i hi
      exact Ev.step (f := fun _ => some true) (fun k => by rw [step, if_neg (by omega)]) (Ev.now true)
    | succ d ih =>
      intro i hi
      have hl : i < xs.length := by omega
      have hw : wrap64 ((i : Int) + 1) = ((i + 1 : Nat) : Int) := by unfold wrap64; omega
      have hx : xs.getD ((i : Int).toNat) z = xs[i] := by simp [List.getD_eq_getElem?_getD, List.getElem?_eq_getElem hl]
      refine Ev.step (f := fun k => (g k xs[i] xs[i]).bind fun t => if t = true then L k xs xs ((i + 1 : Nat) : Int) else some false) (fun k => ?_) ?_
      · rw [step, if_pos (by omega), if_pos (by omega), if_pos (by omega), hx, hw]
      · refine Ev.bind (hg _ (List.getElem_mem hl)) ?_
        simp only [if_true]
        exact ih (i + 1) (by omega)
  exact key xs.length 0 (by omega)
theorem ev_sz_loop {α : Type} {L : Nat → List α → Int → Int → Option Int} {g : Nat → α → Int → Option Int} {z : α}
    (step : ∀ k xs left i, L (k + 1) xs left i = if i < (xs.length : Int) then (if 0 ≤ i then ((g k (xs.getD i.toNat z) left).bind fun t => (if t < 0 then some (-1) else L k xs t (wrap64 (i + 1)))) else none) else some left)
    (xs : List α) (hlen : xs.length ≤ 4611686018427387904) (hg : ∀ x, x ∈ xs → ∀ left : Int, 0 ≤ left → left ≤ 1048576 → ∃ r, Ev (fun k => g k x left) r ∧ r ≤ left) (left : Int) (h0 : 0 ≤ left) (h1 : left ≤ 1048576) :
    ∃ r, Ev (fun k => L k xs left 0) r ∧ r ≤ left := by
  have key : ∀ d (i : Nat) (left : Int), i + d = xs.length → 0 ≤ left → left ≤ 1048576 → ∃ r, Ev (fun k => L k xs left (i : Int)) r ∧ r ≤ left := by
    intro d
    induction d with
    | zero =>
      intro i left hi h0 h1
      exact ⟨left, Ev.step (f := fun _ => some left) (fun k => by rw [step, if_neg (by omega)]) (Ev.now left), by omega⟩
    | succ d ih =>
      intro i left hi h0 h1
      have hl : i < xs.length := by omega
      have hw : wrap64 ((i : Int) + 1) = ((i + 1 : Nat) : Int) := by unfold wrap64; omega
      have hx : xs.getD ((i : Int).toNat) z = xs[i] := by simp [List.getD_eq_getElem?_getD, List.getElem?_eq_getElem hl]
      obtain ⟨t, ht, htl⟩ := hg _ (List.getElem_mem hl) left h0 h1
      by_cases hn : t < 0
      · refine ⟨-1, Ev.step (f := fun k => (g k xs[i] left).bind fun t => if t < 0 then some (-1) else L k xs t ((i + 1 : Nat) : Int)) (fun k => ?_) (Ev.bind ht ?_), by omega⟩
        · rw [step, if_pos (by omega), if_pos (by omega), hx, hw]
        · simp only [hn, if_true]
          exact Ev.now _
      · obtain ⟨r, hr, hrl⟩ := ih (i + 1) t (by omega) (by omega) (by omega)
        refine ⟨r, Ev.step (f := fun k => (g k xs[i] left).bind fun t => if t < 0 then some (-1) else L k xs t ((i + 1 : Nat) : Int)) (fun k => ?_) (Ev.bind ht ?_), by omega⟩
        · rw [step, if_pos (by omega), if_pos (by omega), hx, hw]
        · simp only [hn, if_false]
          exact hr
  exact key xs.length 0 left (by omega) h0 h1
end Go.Proofs.Ytekoaaiemmblgaa.Q
end

section
namespace Go.Proofs.Ytekoaaiemmblgaa.Q
open Go.RowKit Go.Proofs.YtekoaaiemmblgaaW.PrintWords Go.Proofs.YtekoaaiemmblgaaW.PrintLast
set_option linter.unusedVariables false
def cvEntry (x : S84) : S87 := ⟨x.f0, x.f1⟩
theorem toEntryS_ev (l : List S84) (h : l.length ≤ 1048576) : Ev (fun k => laws_toEntryS.f k l) (l.map cvEntry) := by
  refine Ev.congr (f := fun k => laws_toEntryS.l0 k l (List.replicate l.length z87) 0) (fun k => ?_) ?_
  · unfold laws_toEntryS.f
    rw [if_pos (by omega), if_pos (by omega)]
    rfl
  · exact ev_map_loop (L := laws_toEntryS.l0) (g := fun _ x => some (cvEntry x)) (z := z84) (fun _ _ _ _ => rfl) l (by omega) (fun x _ => Ev.now _) _ (by simp)
theorem eqEntry_refl (x : S87) : laws_eqEntry.f x.f0 x.f1 x.f0 x.f1 = some true := by
  unfold laws_eqEntry.f
  simp
theorem eqEntryS_ev (l : List S87) (h : l.length ≤ 1048576) : Ev (fun k => laws_eqEntryS.f k l l) true := by
  refine Ev.congr (f := fun k => laws_eqEntryS.l0 k l l 0) (fun k => ?_) ?_
  · unfold laws_eqEntryS.f
    rw [if_pos rfl]
  · exact ev_refl_loop (L := laws_eqEntryS.l0) (g := fun _ x y => laws_eqEntry.f x.f0 x.f1 y.f0 y.f1) (z := z87) (fun _ _ _ _ => rfl) l (by omega) (fun x _ => Ev.congr (fun _ => eqEntry_refl x) (Ev.now _))
theorem szEntryS_ev (l : List S84) (hl : l.length ≤ 9223372036854775807) (hg : ∀ x, x ∈ l → good84 x) (left : Int) (h0 : 0 ≤ left) (h1 : left ≤ 1048576) :
    ∃ r, Ev (fun k => laws_szEntryS.f k l left) r ∧ r ≤ left ∧ (0 ≤ r → l.length ≤ 1048576) := by
  have hw : wrap64 (left - (l.length : Int)) = left - (l.length : Int) := by unfold wrap64; omega
  by_cases hn : left - (l.length : Int) < 0
  · refine ⟨-1, Ev.congr (f := fun _ => some (-1)) (fun k => ?_) (Ev.now _), by omega, by omega⟩
    unfold laws_szEntryS.f
    rw [hw, if_pos hn]
  · obtain ⟨r, hr, hrl⟩ := ev_sz_loop (L := laws_szEntryS.l0) (g := fun _ x left => laws_szEntry.f x.f0 x.f1 left) (z := z84) (fun _ _ _ _ => rfl) l (by omega) (fun x hx left h0 h1 => by
      have hsz : x.f0.size ≤ 9223372036854775807 := (hg x hx).1
      have hw2 : wrap64 (left - (x.f0.size : Int)) = left - (x.f0.size : Int) := by unfold wrap64; omega
      by_cases h2 : left - (x.f0.size : Int) < 0
      · refine ⟨-1, Ev.congr (f := fun _ => some (-1)) (fun k => ?_) (Ev.now _), by omega⟩
        unfold laws_szEntry.f
        rw [hw2, if_pos h2]
      · refine ⟨left - (x.f0.size : Int), Ev.congr (f := fun _ => some (left - (x.f0.size : Int))) (fun k => ?_) (Ev.now _), by omega⟩
        unfold laws_szEntry.f
        rw [hw2, if_neg h2]) (left - (l.length : Int)) (by omega) (by omega)
    refine ⟨r, Ev.congr (f := fun k => laws_szEntryS.l0 k l (left - (l.length : Int)) 0) (fun k => ?_) hr, by omega, by omega⟩
    unfold laws_szEntryS.f
    rw [hw, if_neg hn]
end Go.Proofs.Ytekoaaiemmblgaa.Q
end

section
namespace Go.Proofs.Ytekoaaiemmblgaa.Q
open Go.RowKit Go.Proofs.YtekoaaiemmblgaaW.PrintWords Go.Proofs.YtekoaaiemmblgaaW.PrintLast
set_option linter.unusedVariables false
theorem Ev.shift {α : Type} {g h : Nat → Option α} {r : α} {c d : Nat} (e : ∀ k, g (k + c) = h (k + d)) (k : Ev h r) : Ev g r := by
  obtain ⟨K, hK⟩ := k
  refine ⟨K + c, fun n hn => ?_⟩
  obtain ⟨m, rfl⟩ : ∃ m, n = m + c := ⟨n - c, by omega⟩
  rw [e]
  exact hK _ (by omega)
theorem Ev.at_ {α : Type} {g : Nat → Option α} {r : α} {c : Nat} (e : ∀ k, g (k + c) = some r) : Ev g r := by
  refine ⟨c, fun n hn => ?_⟩
  obtain ⟨m, rfl⟩ : ∃ m, n = m + c := ⟨n - c, by omega⟩
  exact e m
theorem Ev.succ {α : Type} {g : Nat → Option α} {r : α} (h : Ev (fun k => g (k + 1)) r) : Ev g r := Ev.step (fun _ => rfl) h
theorem ev_all_loop {L : Nat → Int → Option Bool} {n : Nat} {p : Nat → Bool} {fin : Bool}
    (step : ∀ i : Nat, i < n → (∀ j, j < i → p j = true) → p i = true → ∃ c d, ∀ k, L (k + c) (i : Int) = L (k + d) ((i + 1 : Nat) : Int))
    (stop : ∀ i : Nat, i < n → (∀ j, j < i → p j = true) → p i = false → ∃ c, ∀ k, L (k + c) (i : Int) = some false)
    (done : Ev (fun k => L k (n : Int)) fin) : Ev (fun k => L k 0) (allR p n && fin) := by
  have key : ∀ d (i : Nat), i + d = n → (∀ j, j < i → p j = true) → Ev (fun k => L k (i : Int)) (allR p n && fin) := by
    intro d
    induction d with
    | zero =>
      intro i hi hp
      obtain rfl : i = n := by omega
      rw [allR_true hp, Bool.true_and]
      exact done
    | succ d ih =>
      intro i hi hp
      cases h : p i with
      | true =>
        obtain ⟨c, d', e⟩ := step i (by omega) hp h
        refine Ev.shift e (ih (i + 1) (by omega) (fun j hj => ?_))
        rcases Nat.lt_or_eq_of_le (Nat.le_of_lt_succ hj) with h1 | h1
        · exact hp j h1
        · rw [h1]; exact h
      | false =>
        obtain ⟨c, e⟩ := stop i (by omega) hp h
        rw [allR_false (by omega) h, Bool.false_and]
        exact Ev.at_ e
  exact key n 0 (by omega) (fun j hj => absurd hj (Nat.not_lt_zero _))
theorem ev_all_loop2 {L : Nat → Int → Option Bool} {n : Nat} {p : Nat → Bool} {fin : Bool} (m : Nat)
    (step : ∀ i : Nat, m ≤ i → i < n → (∀ j, j < i → p j = true) → p i = true → ∀ r, Ev (fun k => L k ((i + 1 : Nat) : Int)) r → Ev (fun k => L k (i : Int)) r)
    (stop : ∀ i : Nat, m ≤ i → i < n → (∀ j, j < i → p j = true) → p i = false → Ev (fun k => L k (i : Int)) false)
    (done : Ev (fun k => L k (n : Int)) fin) (hm : m ≤ n) (hpm : ∀ j, j < m → p j = true) : Ev (fun k => L k (m : Int)) (allR p n && fin) := by
  have key : ∀ d (i : Nat), m ≤ i → i + d = n → (∀ j, j < i → p j = true) → Ev (fun k => L k (i : Int)) (allR p n && fin) := by
    intro d
    induction d with
    | zero =>
      intro i _ hi hp
      obtain rfl : i = n := by omega
      rw [allR_true hp, Bool.true_and]
      exact done
    | succ d ih =>
      intro i hmi hi hp
      cases h : p i with
      | true =>
        refine step i hmi (by omega) hp h _ (ih (i + 1) (by omega) (by omega) (fun j hj => ?_))
        rcases Nat.lt_or_eq_of_le (Nat.le_of_lt_succ hj) with h1 | h1
        · exact hp j h1
        · rw [h1]; exact h
      | false =>
        rw [allR_false (by omega) h, Bool.false_and]
        exact stop i hmi (by omega) hp h
  exact key (n - m) m (Nat.le_refl _) (by omega) hpm
theorem ev_idx_loop {α : Type} {L : Nat → Int → Option Int} {l : List α} {q : α → Bool}
    (step : ∀ (i : Nat) (hi : i < l.length), q l[i] = false → ∀ k, L (k + 1) (i : Int) = L k ((i + 1 : Nat) : Int))
    (stop : ∀ (i : Nat) (hi : i < l.length), q l[i] = true → ∀ k, L (k + 1) (i : Int) = some (i : Int))
    (done : ∀ k, L (k + 1) (l.length : Int) = some (-1)) : Ev (fun k => L k 0) (idxI q l) := by
  have key : ∀ d (i : Nat), i + d = l.length → (∀ j (hj : j < l.length), j < i → q l[j] = false) → Ev (fun k => L k (i : Int)) (idxI q l) := by
    intro d
    induction d with
    | zero =>
      intro i hi hp
      obtain rfl : i = l.length := by omega
      rw [idxI_none (fun j hj => hp j hj hj)]
      exact Ev.at_ (c := 1) done
    | succ d ih =>
      intro i hi hp
      cases h : q (l[i]'(by omega)) with
      | false =>
        refine Ev.step (step i (by omega) h) (ih (i + 1) (by omega) (fun j hj h2 => ?_))
        rcases Nat.lt_or_eq_of_le (Nat.le_of_lt_succ h2) with h1 | h1
        · exact hp j hj h1
        · subst h1; exact h
      | true =>
        rw [idxI_some (by omega) (fun j hj => hp j (by omega) hj) h]
        exact Ev.at_ (c := 1) (stop i (by omega) h)
  exact key l.length 0 (by omega) (fun j _ hj => absurd hj (Nat.not_lt_zero _))
theorem ev_same_loop {α : Type} {L : Nat → Int → Option Bool} {xs ys : List α} (hl : xs.length = ys.length)
    (step : ∀ (i : Nat) (h1 : i < xs.length) (h2 : i < ys.length), xs[i] = ys[i] → ∀ k, L (k + 1) (i : Int) = L k ((i + 1 : Nat) : Int))
    (stop : ∀ (i : Nat) (h1 : i < xs.length) (h2 : i < ys.length), xs[i] ≠ ys[i] → ∀ k, L (k + 1) (i : Int) = some false)
    (done : ∀ k, L (k + 1) (xs.length : Int) = some true) : ∃ b, Ev (fun k => L k 0) b ∧ (b = true ↔ xs = ys) := by
  have key : ∀ d (i : Nat), i + d = xs.length → xs.take i = ys.take i → ∃ b, Ev (fun k => L k (i : Int)) b ∧ (b = true ↔ xs = ys) := by
    intro d
    induction d with
    | zero =>
      intro i hi hp
      obtain rfl : i = xs.length := by omega
      refine ⟨true, Ev.at_ (c := 1) done, fun _ => ?_, fun _ => rfl⟩
      rw [List.take_length, hl, List.take_length] at hp
      exact hp
    | succ d ih =>
      intro i hi hp
      have h1 : i < xs.length := by omega
      have h2 : i < ys.length := by omega
      rcases Classical.em (xs[i] = ys[i]) with h | h
      · obtain ⟨b, hb, hb2⟩ := ih (i + 1) (by omega) (by rw [List.take_succ_eq_append_getElem h1, List.take_succ_eq_append_getElem h2, hp, h])
        exact ⟨b, Ev.step (step i h1 h2 h) hb, hb2⟩
      · refine ⟨false, Ev.at_ (c := 1) (stop i h1 h2 h), by simp, fun e => absurd (by subst e; rfl) h⟩
  exact key xs.length 0 (by omega) (by simp)
theorem all_allR {α : Type} (q : α → Bool) (z : α) (l : List α) : l.all q = allR (fun j => q (l.getD j z)) l.length := by
  rw [Bool.eq_iff_iff, List.all_eq_true, allR_iff]
  constructor
  · intro h j hj
    rw [List.getD_eq_getElem?_getD, List.getElem?_eq_getElem hj]
    exact h _ (List.getElem_mem hj)
  · intro h x hx
    obtain ⟨j, hj, rfl⟩ := List.mem_iff_getElem.mp hx
    have := h j hj
    rwa [List.getD_eq_getElem?_getD, List.getElem?_eq_getElem hj] at this
theorem allR_and (p q : Nat → Bool) (n : Nat) : allR (fun j => p j && q j) n = (allR p n && allR q n) := by
  rw [Bool.eq_iff_iff, Bool.and_eq_true, allR_iff, allR_iff, allR_iff]
  simp only [Bool.and_eq_true]
  exact ⟨fun h => ⟨fun j hj => (h j hj).1, fun j hj => (h j hj).2⟩, fun h j hj => ⟨h.1 j hj, h.2 j hj⟩⟩
theorem wrap_i {i : Nat} (h : i < 4611686018427387904) : wrap64 ((i : Int) + 1) = ((i + 1 : Nat) : Int) := by unfold wrap64; omega
theorem wrap_2 {i : Int} (h0 : -4611686018427387904 ≤ i) (h : i < 4611686018427387904) : wrap64 (i + 1) = i + 1 := by unfold wrap64; omega
end Go.Proofs.Ytekoaaiemmblgaa.Q
end

section
namespace Go.Proofs.Ytekoaaiemmblgaa.Q
open Go.RowKit Go.Proofs.YtekoaaiemmblgaaW.PrintWords Go.Proofs.YtekoaaiemmblgaaW.PrintLast
set_option linter.unusedVariables false
set_option linter.unusedSimpArgs false
theorem toIntS_ev (l : List Int) (h : l.length ≤ 1048576) : Ev (fun k => laws_toIntS.f k l) l := by
  refine Ev.congr (f := fun k => laws_toIntS.l0 k l (List.replicate l.length 0) 0) (fun k => ?_) ?_
  · unfold laws_toIntS.f
    rw [if_pos (by omega), if_pos (by omega)]
    rfl
  · have h2 := ev_map_loop (L := laws_toIntS.l0) (g := fun _ x => some x) (cv := fun x => x) (z := (0 : Int)) (fun _ _ _ _ => rfl) l (by omega) (fun x _ => Ev.now _) (List.replicate l.length 0) (by simp)
    simpa using h2
theorem eqIntS_ev (l : List Int) (hl : l.length ≤ 1048576) : Ev (fun k => laws_eqIntS.f k l l) true := by
  obtain ⟨b, hb, h⟩ := ev_same_loop (L := fun k i => laws_eqIntS.l0 k l l i) (xs := l) (ys := l) rfl (fun i h1 h2 e k => by
    have c1 : (i : Int) < (l.length : Int) := by omega
    simp only [laws_eqIntS.l0, c1, Int.natCast_nonneg, if_true, wrap_i (show i < 4611686018427387904 by omega)]) (fun i h1 h2 e k => absurd rfl e) (fun k => by
    simp only [laws_eqIntS.l0]
    rw [if_neg (by omega)])
  obtain rfl : b = true := h.mpr rfl
  exact Ev.congr (f := fun k => laws_eqIntS.l0 k l l 0) (fun k => by unfold laws_eqIntS.f; rw [if_pos rfl]) hb
theorem szIntS_ev (l : List Int) (hl : l.length ≤ 9223372036854775807) (left : Int) (h0 : 0 ≤ left) (h1 : left ≤ 1048576) :
    ∃ r, laws_szIntS.f l left = some r ∧ r ≤ left ∧ (0 ≤ r → l.length ≤ 1048576) := by
  have hw : wrap64 (left - (l.length : Int)) = left - (l.length : Int) := by unfold wrap64; omega
  unfold laws_szIntS.f
  rw [hw]
  by_cases hn : left - (l.length : Int) < 0
  · exact ⟨-1, by rw [if_pos hn], by omega, by omega⟩
  · exact ⟨left - (l.length : Int), by rw [if_neg hn], by omega, by omega⟩
def cvCommit (x : S75) : S78 := ⟨x.f0, x.f1.map cvEntry⟩
def fitC (x : S75) : Prop := x.f0.length ≤ 1048576 ∧ x.f1.length ≤ 1048576
theorem szCommit_ev (x : S75) (g : good75 x) (left : Int) (h0 : 0 ≤ left) (h1 : left ≤ 1048576) : ∃ r, Ev (fun k => laws_szCommit.f k x.f0 x.f1 left) r ∧ r ≤ left ∧ (0 ≤ r → fitC x) := by
  unfold laws_szCommit.f
  obtain ⟨r, hr, hrl, hrs⟩ := szIntS_ev x.f0 g.1.1 left h0 h1
  simp only [hr, Option.bind_some]
  by_cases hn : r < 0
  · exact ⟨-1, by simp only [hn, if_true]; exact Ev.now _, by omega, by omega⟩
  · obtain ⟨r', hr', hrl', hrs'⟩ := szEntryS_ev x.f1 g.2.1 g.2.2 r (by omega) (by omega)
    by_cases hn' : r' < 0
    · exact ⟨-1, by simp only [hn, if_false]; refine Ev.bind hr' ?_; simp only [hn', if_true]; exact Ev.now _, by omega, by omega⟩
    · exact ⟨r', by simp only [hn, if_false]; refine Ev.bind hr' ?_; simp only [hn', if_false]; exact Ev.now _, by omega, fun h => ⟨hrs (by omega), hrs' h⟩⟩
theorem ev_sz_loop2 {α : Type} {L : Nat → List α → Int → Int → Option Int} {g : Nat → α → Int → Option Int} {z : α} {P : α → Prop}
    (step : ∀ k xs left i, L (k + 1) xs left i = if i < (xs.length : Int) then (if 0 ≤ i then ((g k (xs.getD i.toNat z) left).bind fun t => (if t < 0 then some (-1) else L k xs t (wrap64 (i + 1)))) else none) else some left)
    (xs : List α) (hlen : xs.length ≤ 4611686018427387904) (hg : ∀ x, x ∈ xs → ∀ left : Int, 0 ≤ left → left ≤ 1048576 → ∃ r, Ev (fun k => g k x left) r ∧ r ≤ left ∧ (0 ≤ r → P x)) (left : Int) (h0 : 0 ≤ left) (h1 : left ≤ 1048576) :
    ∃ r, Ev (fun k => L k xs left 0) r ∧ r ≤ left ∧ (0 ≤ r → ∀ x, x ∈ xs → P x) := by
  have key : ∀ d (i : Nat) (left : Int), i + d = xs.length → 0 ≤ left → left ≤ 1048576 → ∃ r, Ev (fun k => L k xs left (i : Int)) r ∧ r ≤ left ∧ (0 ≤ r → ∀ x, x ∈ xs.drop i → P x) := by
    intro d
    induction d with
    | zero =>
      intro i left hi h0 h1
      refine ⟨left, Ev.step (f := fun _ => some left) (fun k => by rw [step, if_neg (by omega)]) (Ev.now left), by omega, fun _ x hx => ?_⟩
      rw [List.drop_eq_nil_of_le (by omega)] at hx
      cases hx
    | succ d ih =>
      intro i left hi h0 h1
      have hl : i < xs.length := by omega
      have hw : wrap64 ((i : Int) + 1) = ((i + 1 : Nat) : Int) := by unfold wrap64; omega
      have hx : xs.getD ((i : Int).toNat) z = xs[i] := by simp [List.getD_eq_getElem?_getD, List.getElem?_eq_getElem hl]
      obtain ⟨t, ht, htl, hP⟩ := hg _ (List.getElem_mem hl) left h0 h1
      have hstep : ∀ k, L (k + 1) xs left (i : Int) = (g k xs[i] left).bind fun t => if t < 0 then some (-1) else L k xs t ((i + 1 : Nat) : Int) := fun k => by rw [step, if_pos (by omega), if_pos (by omega), hx, hw]
      by_cases hn : t < 0
      · refine ⟨-1, Ev.step hstep (Ev.bind ht ?_), by omega, by omega⟩
        simp only [hn, if_true]
        exact Ev.now _
      · obtain ⟨r, hr, hrl, hrP⟩ := ih (i + 1) t (by omega) (by omega) (by omega)
        refine ⟨r, Ev.step hstep (Ev.bind ht ?_), by omega, fun h x hx => ?_⟩
        · simp only [hn, if_false]
          exact hr
        · rw [List.drop_eq_getElem_cons hl] at hx
          rcases List.mem_cons.mp hx with rfl | hx
          · exact hP (by omega)
          · exact hrP h x hx
  have h := key xs.length 0 left (by omega) h0 h1
  simpa using h
theorem szCommitS_ev (l : List S75) (hl : l.length ≤ 9223372036854775807) (hg : ∀ x, x ∈ l → good75 x) (left : Int) (h0 : 0 ≤ left) (h1 : left ≤ 1048576) :
    ∃ r, Ev (fun k => laws_szCommitS.f k l left) r ∧ r ≤ left ∧ (0 ≤ r → l.length ≤ 1048576 ∧ ∀ x, x ∈ l → fitC x) := by
  have hw : wrap64 (left - (l.length : Int)) = left - (l.length : Int) := by unfold wrap64; omega
  by_cases hn : left - (l.length : Int) < 0
  · refine ⟨-1, Ev.congr (f := fun _ => some (-1)) (fun k => ?_) (Ev.now _), by omega, by omega⟩
    unfold laws_szCommitS.f
    rw [hw, if_pos hn]
  · obtain ⟨r, hr, hrl, hrP⟩ := ev_sz_loop2 (L := laws_szCommitS.l0) (g := fun k x left => laws_szCommit.f k x.f0 x.f1 left) (z := z75) (P := fitC) (fun _ _ _ _ => rfl) l (by omega) (fun x hx left h0 h1 => szCommit_ev x (hg x hx) left h0 h1) (left - (l.length : Int)) (by omega) (by omega)
    refine ⟨r, Ev.congr (f := fun k => laws_szCommitS.l0 k l (left - (l.length : Int)) 0) (fun k => ?_) hr, by omega, fun h => ⟨by omega, hrP h⟩⟩
    unfold laws_szCommitS.f
    rw [hw, if_neg hn]
theorem toCommit_ev (x : S75) (h : fitC x) : Ev (fun k => laws_toCommit.f k x.f0 x.f1) (x.f0, x.f1.map cvEntry) := by
  unfold laws_toCommit.f
  exact Ev.bind (toIntS_ev _ h.1) (Ev.bind (toEntryS_ev _ h.2) (Ev.now _))
theorem toCommitS_ev (l : List S75) (h : l.length ≤ 1048576) (hf : ∀ x, x ∈ l → fitC x) : Ev (fun k => laws_toCommitS.f k l) (l.map cvCommit) := by
  refine Ev.congr (f := fun k => laws_toCommitS.l0 k l (List.replicate l.length z78) 0) (fun k => ?_) ?_
  · unfold laws_toCommitS.f
    rw [if_pos (by omega), if_pos (by omega)]
    rfl
  · exact ev_map_loop (L := laws_toCommitS.l0) (g := fun k x => (laws_toCommit.f k x.f0 x.f1).bind fun bt => some (⟨bt.1, bt.2⟩ : S78)) (cv := cvCommit) (z := z75) (fun k xs acc i => by
      simp only [laws_toCommitS.l0, Option.bind_assoc, Option.bind_some]
      rfl) l (by omega) (fun x hx => Ev.bind (toCommit_ev x (hf x hx)) (Ev.now _)) _ (by simp)
theorem eqCommitS_ev (l : List S78) (h : l.length ≤ 1048576) (hf : ∀ x, x ∈ l → x.f0.length ≤ 1048576 ∧ x.f1.length ≤ 1048576) : Ev (fun k => laws_eqCommitS.f k l l) true := by
  refine Ev.congr (f := fun k => laws_eqCommitS.l0 k l l 0) (fun k => ?_) ?_
  · unfold laws_eqCommitS.f
    rw [if_pos rfl]
  · exact ev_refl_loop (L := laws_eqCommitS.l0) (g := fun k x y => laws_eqCommit.f k x.f0 x.f1 y.f0 y.f1) (z := z78) (fun _ _ _ _ => rfl) l (by omega) (fun x hx => by
      unfold laws_eqCommit.f
      refine Ev.bind (eqIntS_ev _ (hf x hx).1) ?_
      simp only [if_true]
      refine Ev.bind (eqEntryS_ev _ (hf x hx).2) ?_
      simp only [if_true]
      exact Ev.now _)
theorem fit_cv {l : List S75} (hf : ∀ x, x ∈ l → fitC x) : ∀ x, x ∈ l.map cvCommit → x.f0.length ≤ 1048576 ∧ x.f1.length ≤ 1048576 := by
  intro x hx
  obtain ⟨y, hy, rfl⟩ := List.mem_map.mp hx
  exact ⟨(hf y hy).1, by simpa [cvCommit] using (hf y hy).2⟩
end Go.Proofs.Ytekoaaiemmblgaa.Q
end

section
namespace Go.Proofs.Ytekoaaiemmblgaa.Q
open Go.RowKit Go.Proofs.YtekoaaiemmblgaaW.PrintWords Go.Proofs.YtekoaaiemmblgaaW.PrintLast
set_option linter.unusedVariables false
def cvRef (x : S118) : S92 := ⟨x.f0, x.f1, x.f2, x.f3⟩
theorem toRefS_ev (l : List S118) (h : l.length ≤ 1048576) : Ev (fun k => laws_toRefS.f k l) (l.map cvRef) := by
  refine Ev.congr (f := fun k => laws_toRefS.l0 k l (List.replicate l.length z92) 0) (fun k => ?_) ?_
  · unfold laws_toRefS.f
    rw [if_pos (by omega), if_pos (by omega)]
    rfl
  · exact ev_map_loop (L := laws_toRefS.l0) (g := fun _ x => some (cvRef x)) (z := z118) (fun _ _ _ _ => rfl) l (by omega) (fun x _ => Ev.now _) _ (by simp)
theorem eqRef_refl (x : S92) : laws_eqRef.f x.f0 x.f1 x.f2 x.f3 x.f0 x.f1 x.f2 x.f3 = some true := by
  unfold laws_eqRef.f
  simp
theorem eqRefS_ev (l : List S92) (h : l.length ≤ 1048576) : Ev (fun k => laws_eqRefS.f k l l) true := by
  refine Ev.congr (f := fun k => laws_eqRefS.l0 k l l 0) (fun k => ?_) ?_
  · unfold laws_eqRefS.f
    rw [if_pos rfl]
  · exact ev_refl_loop (L := laws_eqRefS.l0) (g := fun _ x y => laws_eqRef.f x.f0 x.f1 x.f2 x.f3 y.f0 y.f1 y.f2 y.f3) (z := z92) (fun _ _ _ _ => rfl) l (by omega) (fun x _ => Ev.congr (fun _ => eqRef_refl x) (Ev.now _))
theorem szRefS_ev (l : List S118) (hl : l.length ≤ 9223372036854775807) (hg : ∀ x, x ∈ l → good118 x) (left : Int) (h0 : 0 ≤ left) (h1 : left ≤ 1048576) :
    ∃ r, Ev (fun k => laws_szRefS.f k l left) r ∧ r ≤ left ∧ (0 ≤ r → l.length ≤ 1048576) := by
  have hw : wrap64 (left - (l.length : Int)) = left - (l.length : Int) := by unfold wrap64; omega
  by_cases hn : left - (l.length : Int) < 0
  · refine ⟨-1, Ev.congr (f := fun _ => some (-1)) (fun k => ?_) (Ev.now _), by omega, by omega⟩
    unfold laws_szRefS.f
    rw [hw, if_pos hn]
  · obtain ⟨r, hr, hrl⟩ := ev_sz_loop (L := laws_szRefS.l0) (g := fun _ x left => laws_szRef.f x.f0 x.f1 x.f2 x.f3 left) (z := z118) (fun _ _ _ _ => rfl) l (by omega) (fun x hx left h0 h1 => by
      have hsz : x.f0.size ≤ 9223372036854775807 := (hg x hx).1
      have hw2 : wrap64 (left - (x.f0.size : Int)) = left - (x.f0.size : Int) := by unfold wrap64; omega
      by_cases h2 : left - (x.f0.size : Int) < 0
      · refine ⟨-1, Ev.congr (f := fun _ => some (-1)) (fun k => ?_) (Ev.now _), by omega⟩
        unfold laws_szRef.f
        rw [hw2, if_pos h2]
      · refine ⟨left - (x.f0.size : Int), Ev.congr (f := fun _ => some (left - (x.f0.size : Int))) (fun k => ?_) (Ev.now _), by omega⟩
        unfold laws_szRef.f
        rw [hw2, if_neg h2]) (left - (l.length : Int)) (by omega) (by omega)
    refine ⟨r, Ev.congr (f := fun k => laws_szRefS.l0 k l (left - (l.length : Int)) 0) (fun k => ?_) hr, by omega, by omega⟩
    unfold laws_szRefS.f
    rw [hw, if_neg hn]
end Go.Proofs.Ytekoaaiemmblgaa.Q
end

section
namespace Go.Proofs.Ytekoaaiemmblgaa.Q
open Go.RowKit Go.Proofs.YtekoaaiemmblgaaW.PrintWords Go.Proofs.YtekoaaiemmblgaaW.PrintLast
theorem isValue_f (n : Int) : impl_isValue.f n = some (inB n (-1000000) 1000000) := by
  unfold impl_isValue.f impl_within.f inB
  by_cases h : (-1000000 : Int) ≤ n <;> simp [h]
theorem mapOK_l0 (l : List S87) (hlen : l.length ≤ 4611686018427387904) (d : Nat) : ∀ i : Nat, i + d = l.length → (∀ j, j < i → entAt l j = true) → Ev (fun k => impl_MapOK.l0 k l l (l.length : Int) (i : Int)) (mapB l) := by
  induction d with
  | zero =>
    intro i hi hp
    have e : mapB l = decide ((l.length : Int) ≤ 12) := by
      unfold mapB
      rw [allR_true (fun j hj => hp j (by omega)), Bool.and_true]
      by_cases h : l.length ≤ 12
      · rw [decide_eq_true h, decide_eq_true (by omega)]
      · rw [decide_eq_false h, decide_eq_false (by omega)]
    rw [e]
    exact Ev.step (f := fun _ => some (decide ((l.length : Int) ≤ 12))) (fun k => by simp only [impl_MapOK.l0]; rw [if_neg (by omega)]) (Ev.now _)
  | succ d ih =>
    intro i hi hp
    have hw : wrap64 ((i : Int) + 1) = ((i + 1 : Nat) : Int) := by unfold wrap64; omega
    have hbad : entAt l i = false → mapB l = false := fun h => by
      unfold mapB
      rw [allR_false (j := i) (by omega) h, Bool.and_false]
    have hgo : entAt l i = true → Ev (fun k => impl_MapOK.l0 k l l (l.length : Int) ((i + 1 : Nat) : Int)) (mapB l) := fun h => ih (i + 1) (by omega) (fun j hj => by
      by_cases e : j = i
      · rw [e]; exact h
      · exact hp j (by omega))
    have E : entAt l i = (nameB (rd_T87 l (i : Int)).f0 && inB (rd_T87 l (i : Int)).f1 (-1000000) 1000000 && (i == 0 || sblt (rd_T87 l ((i : Int) - 1)).f0 (rd_T87 l (i : Int)).f0)) := rfl
    have c1 : (i : Int) < (l.length : Int) := by omega
    have c2 : (0 : Int) ≤ (i : Int) := by omega
    cases hN : nameB (rd_T87 l (i : Int)).f0 with
    | false =>
      rw [hbad (by rw [E, hN]; rfl)]
      refine Ev.step (f := fun _ => some false) (fun k => ?_) (Ev.now _)
      simp only [impl_MapOK.l0, impl_NameOK.f, hN, if_pos c1, if_pos c2, Option.bind_some, Bool.false_eq_true, if_false]
    | true =>
      cases hV : inB (rd_T87 l (i : Int)).f1 (-1000000) 1000000 with
      | false =>
        rw [hbad (by rw [E, hN, hV]; rfl)]
        refine Ev.step (f := fun _ => some false) (fun k => ?_) (Ev.now _)
        simp only [impl_MapOK.l0, impl_NameOK.f, isValue_f, hN, hV, if_pos c1, if_pos c2, Option.bind_some, Bool.false_eq_true, if_false, if_true]
      | true =>
        by_cases hz : i = 0
        · have hg := hgo (by rw [E, hN, hV]; simp [hz])
          refine Ev.step (fun k => ?_) hg
          have c3 : ¬ ((i : Int) > 0) := by omega
          simp only [impl_MapOK.l0, impl_NameOK.f, isValue_f, hN, hV, if_pos c1, if_pos c2, if_neg c3, Option.bind_some, if_true, hw]
        · have c3 : (i : Int) > 0 := by omega
          have hw2 : wrap64 ((i : Int) - 1) = (i : Int) - 1 := by unfold wrap64; omega
          have c4 : (0 : Int) ≤ (i : Int) - 1 := by omega
          have c5 : (i : Int) - 1 < (l.length : Int) := by omega
          have z : (i == 0) = false := by simp [hz]
          cases hS : sblt (rd_T87 l ((i : Int) - 1)).f0 (rd_T87 l (i : Int)).f0 with
          | false =>
            rw [hbad (by rw [E, hN, hV, hS, z]; rfl)]
            have hS1 : Op.bytesLess (rd_T87 l ((i : Int) - 1)).f0.toList (rd_T87 l (i : Int)).f0.toList = false := hS
            refine Ev.step (f := fun _ => some false) (fun k => ?_) (Ev.now _)
            simp only [impl_MapOK.l0, impl_NameOK.f, isValue_f, hN, hV, hS1, hw2, if_pos c1, if_pos c2, if_pos c3, if_pos c4, if_pos c5, Option.bind_some, if_true, Bool.false_eq_true, if_false]
          | true =>
            have hg := hgo (by rw [E, hN, hV, hS]; simp)
            have hS1 : Op.bytesLess (rd_T87 l ((i : Int) - 1)).f0.toList (rd_T87 l (i : Int)).f0.toList = true := hS
            refine Ev.step (fun k => ?_) hg
            simp only [impl_MapOK.l0, impl_NameOK.f, isValue_f, hN, hV, hS1, hw2, if_pos c1, if_pos c2, if_pos c3, if_pos c4, if_pos c5, Option.bind_some, if_true, hw]
theorem mapOK_ev (l : List S87) (hlen : l.length ≤ 4611686018427387904) : Ev (fun k => impl_MapOK.f k l) (mapB l) := mapOK_l0 l hlen l.length 0 (by omega) (fun j hj => absurd hj (Nat.not_lt_zero _))
end Go.Proofs.Ytekoaaiemmblgaa.Q
end

section
namespace Go.Proofs.Ytekoaaiemmblgaa.Q
open Go.RowKit Go.Proofs.YtekoaaiemmblgaaW.PrintWords Go.Proofs.YtekoaaiemmblgaaW.PrintLast
theorem l00Word_ev (s : ByteArray) : Ev (fun k => spec_l00Word.f k s) (nameB s) := Ev.of (fun k => spec_l00Word.mono s k) (l00Word_f s)
theorem l01In_is (a b c : Int) : spec_l01In.f a b c = some (inB a b c) := by
  unfold spec_l01In.f inB
  by_cases h : b ≤ a <;> simp [h]
end Go.Proofs.Ytekoaaiemmblgaa.Q
end

section
namespace Go.Proofs.Ytekoaaiemmblgaa.Q
open Go.RowKit Go.Proofs.YtekoaaiemmblgaaW.PrintWords Go.Proofs.YtekoaaiemmblgaaW.PrintLast
set_option linter.unusedVariables false
set_option linter.unusedSimpArgs false
theorem rdCommit {l : List S78} {i : Nat} (h : i < l.length) : rd_T78 l (i : Int) = l[i] := by
  simp [rd_T78, List.getD_eq_getElem?_getD, List.getElem?_eq_getElem h]
def commitB (n : Nat) (ps : List Int) (m : List S87) : Bool :=
  mapB m && match ps with
  | [] => n == 0
  | [a] => n != 0 && inB a 1 n
  | [a, b] => n != 0 && (inB a 1 n && (inB b 1 n && b != a))
  | _ => false
def storeB (l : List S78) : Bool := inB l.length 1 60 && allR (fun i => commitB i (rd_T78 l (i : Int)).f0 (rd_T78 l (i : Int)).f1) l.length
theorem nat_eq0 (n : Nat) : ((n : Int) == 0) = (n == 0) := by
  cases n with
  | zero => rfl
  | succ n =>
    have h1 : (((n + 1 : Nat) : Int) == 0) = false := by rw [beq_eq_false_iff_ne]; omega
    rw [h1]; rfl
theorem l03Commit_ev (st : List S78) (ps : List Int) (m : List S87) : Ev (fun k => spec_l03Commit.f k st ps m) (commitB st.length ps m) := by
  unfold commitB
  have w0 : wrap64 (0 + 1) = 1 := by unfold wrap64; omega
  have w1 : wrap64 (1 + 1) = 2 := by unfold wrap64; omega
  cases hm : mapB m with
  | false =>
    refine Ev.at_ (c := 1) (fun k => ?_)
    simp only [spec_l03Commit.f, spec_l01OK.f, Option.bind_some, hm, Bool.false_eq_true, if_false, spec_l03Commit.j0, if_true, Bool.false_and]
  | true =>
    match ps with
    | [] =>
      refine Ev.at_ (c := 2) (fun k => ?_)
      simp only [spec_l03Commit.f, spec_l01OK.f, Option.bind_some, hm, if_true, nat_eq0, List.length_nil, spec_l03Commit.j0, spec_l03Commit.l0]
      cases st.length == 0 <;> simp
    | [a] =>
      refine Ev.at_ (c := 4) (fun k => ?_)
      have r0 : rd [a] 0 = a := rfl
      simp only [spec_l03Commit.f, spec_l01OK.f, Option.bind_some, hm, if_true, nat_eq0, List.length_cons, List.length_nil, spec_l03Commit.j0, spec_l03Commit.l0, l01In_is, r0, w0, bne]
      cases st.length == 0 <;> cases inB a 1 st.length <;> simp
    | [a, b] =>
      refine Ev.at_ (c := 5) (fun k => ?_)
      have r0 : rd [a, b] 0 = a := rfl
      have r1 : rd [a, b] 1 = b := rfl
      simp only [spec_l03Commit.f, spec_l01OK.f, Option.bind_some, hm, if_true, nat_eq0, List.length_cons, List.length_nil, spec_l03Commit.j0, spec_l03Commit.l0, l01In_is, r0, r1, w0, w1, bne]
      by_cases hab : b = a
      · cases st.length == 0 <;> cases inB a 1 st.length <;> cases inB b 1 st.length <;> simp [hab]
      · cases st.length == 0 <;> cases inB a 1 st.length <;> cases inB b 1 st.length <;> simp [hab]
    | a :: b :: c :: r =>
      refine Ev.at_ (c := 1) (fun k => ?_)
      have h3 : (((a :: b :: c :: r).length : Nat) : Int) > 2 := by simp only [List.length_cons]; omega
      simp only [spec_l03Commit.f, spec_l01OK.f, Option.bind_some, hm, if_true, h3, spec_l03Commit.j0, Bool.and_false]
theorem isAt_ev (n : Nat) (hn : n ≤ 1048576) (ps : List Int) (m : List S87) (hm : m.length ≤ 1048576) : Ev (fun k => impl_Commit_isAt.f k ps m ((n : Int) + 1)) (commitB n ps m) := by
  unfold impl_Commit_isAt.f commitB
  refine Ev.bind (mapOK_ev m (by omega)) ?_
  have e1 : ((n : Int) + 1 == 1) = (n == 0) := by
    cases n with
    | zero => rfl
    | succ n =>
      have h1 : (((n + 1 : Nat) : Int) + 1 == 1) = false := by rw [beq_eq_false_iff_ne]; omega
      rw [h1]; rfl
  have l1 : (-9223372036854775807 : Int) ≤ (n : Int) + 1 := by omega
  have l2 : (n : Int) + 1 ≤ 9223372036854775807 := by omega
  have l3 : (n : Int) + 1 - 1 = (n : Int) := by omega
  cases mapB m with
  | false => simp only [Bool.false_eq_true, if_false, Bool.false_and]; exact Ev.now _
  | true =>
    simp only [if_true, Bool.true_and, areAllint_isAt.f, l1, l2, l3, e1]
    match ps with
    | [] =>
      refine Ev.at_ (c := 0) (fun k => ?_)
      cases hz : n == 0 <;> simp [hz]
    | [a] =>
      refine Ev.at_ (c := 0) (fun k => ?_)
      cases hz : n == 0 <;> cases h1 : inB a 1 n <;> simp [hz, h1, bne]
    | [a, b] =>
      refine Ev.at_ (c := 0) (fun k => ?_)
      have r0 : rd [a, b] 0 = a := rfl
      have r1 : rd [a, b] 1 = b := rfl
      by_cases hab : a = b
      · subst hab
        cases hz : n == 0 <;> simp [hz, r0, r1, bne]
      · have hba : ¬ b = a := fun h => hab h.symm
        cases hz : n == 0 <;> cases h1 : inB a 1 n <;> cases h2 : inB b 1 n <;> simp [hz, r0, r1, hab, hba, h1, h2, bne]
    | a :: b :: c :: r =>
      have h3 : (((a :: b :: c :: r).length : Nat) : Int) > 2 := by simp only [List.length_cons]; omega
      simp only [h3, if_true]
      exact Ev.now _
theorem l03OK_ev (l : List S78) : Ev (fun k => spec_l03OK.f k l) (storeB l) := by
  unfold spec_l03OK.f storeB
  simp only [l01In_is, Option.bind_some]
  cases hn : inB l.length 1 60 with
  | false => simp only [Bool.false_eq_true, if_false, Bool.false_and]; exact Ev.now _
  | true =>
    have h60 : l.length ≤ 60 := by
      unfold inB at hn
      simp only [Bool.and_eq_true, decide_eq_true_eq] at hn
      omega
    simp only [if_true, Bool.true_and]
    have h := ev_all_loop2 (L := fun k i => spec_l03OK.l0 k l i) (n := l.length) (p := fun i => commitB i (rd_T78 l (i : Int)).f0 (rd_T78 l (i : Int)).f1) (fin := true) 0 (fun i _ hi _ hp r hr => by
      have c1 : (i : Int) < (l.length : Int) := by omega
      have c2 : (i : Int) ≤ (l.length : Int) := by omega
      have hc := l03Commit_ev (l.take i) (rd_T78 l (i : Int)).f0 (rd_T78 l (i : Int)).f1
      rw [List.length_take, Nat.min_eq_left (by omega), hp] at hc
      refine Ev.succ (g := fun k => spec_l03OK.l0 k l (i : Int)) ?_
      simp only [spec_l03OK.l0, c1, c2, Int.natCast_nonneg, if_true, Int.toNat_natCast, wrap_i (show i < 4611686018427387904 by omega)]
      refine Ev.bind hc ?_
      simp only [if_true]
      exact hr) (fun i _ hi _ hp => by
      have c1 : (i : Int) < (l.length : Int) := by omega
      have c2 : (i : Int) ≤ (l.length : Int) := by omega
      have hc := l03Commit_ev (l.take i) (rd_T78 l (i : Int)).f0 (rd_T78 l (i : Int)).f1
      rw [List.length_take, Nat.min_eq_left (by omega), hp] at hc
      refine Ev.succ (g := fun k => spec_l03OK.l0 k l (i : Int)) ?_
      simp only [spec_l03OK.l0, c1, c2, Int.natCast_nonneg, if_true, Int.toNat_natCast]
      refine Ev.bind hc ?_
      simp only [Bool.false_eq_true, if_false]
      exact Ev.now _) (Ev.at_ (c := 1) (fun k => by
      simp only [spec_l03OK.l0]
      rw [if_neg (by omega)])) (Nat.zero_le _) (fun j hj => absurd hj (Nat.not_lt_zero _))
    rw [Bool.and_true] at h
    exact h
theorem areCommits_ev (l : List S78) (hl : l.length ≤ 1048576) (hf : ∀ x, x ∈ l → x.f1.length ≤ 1048576) : Ev (fun k => impl_areCommits.f k l) (allR (fun i => commitB i (rd_T78 l (i : Int)).f0 (rd_T78 l (i : Int)).f1) l.length && decide ((l.length : Int) ≤ 60)) := by
  exact ev_all_loop2 (L := fun k i => impl_areCommits.l0 k l l (l.length : Int) i) (n := l.length) (p := fun i => commitB i (rd_T78 l (i : Int)).f0 (rd_T78 l (i : Int)).f1) 0 (fun i _ hi _ hp r hr => by
    have c1 : (i : Int) < (l.length : Int) := by omega
    have w := wrap_2 (i := (i : Int)) (by omega) (by omega)
    have hc := isAt_ev i (by omega) (rd_T78 l (i : Int)).f0 (rd_T78 l (i : Int)).f1 (by rw [rdCommit hi]; exact hf _ (List.getElem_mem hi))
    rw [hp] at hc
    refine Ev.succ (g := fun k => impl_areCommits.l0 k l l (l.length : Int) (i : Int)) ?_
    simp only [impl_areCommits.l0, c1, Int.natCast_nonneg, if_true, w]
    refine Ev.bind hc ?_
    simp only [if_true]
    exact hr) (fun i _ hi _ hp => by
    have c1 : (i : Int) < (l.length : Int) := by omega
    have w := wrap_2 (i := (i : Int)) (by omega) (by omega)
    have hc := isAt_ev i (by omega) (rd_T78 l (i : Int)).f0 (rd_T78 l (i : Int)).f1 (by rw [rdCommit hi]; exact hf _ (List.getElem_mem hi))
    rw [hp] at hc
    refine Ev.succ (g := fun k => impl_areCommits.l0 k l l (l.length : Int) (i : Int)) ?_
    simp only [impl_areCommits.l0, c1, Int.natCast_nonneg, if_true, w]
    refine Ev.bind hc ?_
    simp only [Bool.false_eq_true, if_false]
    exact Ev.now _) (Ev.at_ (c := 1) (fun k => by
    simp only [impl_areCommits.l0]
    rw [if_neg (by omega)])) (Nat.zero_le _) (fun j hj => absurd hj (Nat.not_lt_zero _))
theorem storeOK_ev (l : List S78) (hl : l.length ≤ 1048576) (hf : ∀ x, x ∈ l → x.f1.length ≤ 1048576) : Ev (fun k => impl_StoreOK.f k l) (storeB l) := by
  unfold impl_StoreOK.f storeB
  by_cases h0 : (l.length : Int) > 0
  · have hi : inB l.length 1 60 = decide ((l.length : Int) ≤ 60) := by
      unfold inB
      rw [decide_eq_true (by omega), Bool.true_and]
    simp only [h0, if_true, impl_Commit_97.f, Option.bind_some]
    by_cases h4 : (l.length : Int) ≤ 4096
    · simp only [h4, decide_true, if_true]
      rw [hi, Bool.and_comm]
      exact Ev.bind (areCommits_ev l hl hf) (Ev.now _)
    · simp only [h4, decide_false, Bool.false_eq_true, if_false]
      rw [hi, decide_eq_false (by omega), Bool.false_and]
      exact Ev.now _
  · have hi : inB l.length 1 60 = false := by
      unfold inB
      rw [decide_eq_false (by omega), Bool.false_and]
    simp only [h0, if_false, hi, Bool.false_and]
    exact Ev.now _
end Go.Proofs.Ytekoaaiemmblgaa.Q
end

section
namespace Go.Proofs.Ytekoaaiemmblgaa.Q
open Go.RowKit Go.Proofs.YtekoaaiemmblgaaW.PrintWords Go.Proofs.YtekoaaiemmblgaaW.PrintLast
set_option linter.unusedVariables false
set_option linter.unusedSimpArgs false
theorem rdRef {l : List S92} {i : Nat} (h : i < l.length) : rd_T92 l (i : Int) = l[i] := by
  simp [rd_T92, List.getD_eq_getElem?_getD, List.getElem?_eq_getElem h]
theorem l04At_ev (l : List S92) (n : ByteArray) (hlen : l.length ≤ 1048576) : Ev (fun k => spec_l04At.f k l n) (placeI l n) := by
  refine ev_idx_loop (L := fun k i => spec_l04At.l0 k l n i) (q := isNm n) ?_ ?_ ?_
  · intro i hi hq k
    have hq2 : ¬ (l[i].f0.toList = n.toList) := by simpa [isNm] using hq
    have c1 : (i : Int) < (l.length : Int) := by omega
    simp only [spec_l04At.l0, rdRef hi, c1, hq2, if_true, if_false, Int.natCast_nonneg, wrap_i (show i < 4611686018427387904 by omega)]
  · intro i hi hq k
    have hq2 : l[i].f0.toList = n.toList := by simpa [isNm] using hq
    have c1 : (i : Int) < (l.length : Int) := by omega
    simp only [spec_l04At.l0, rdRef hi, c1, hq2, if_true, Int.natCast_nonneg]
  · intro k
    simp only [spec_l04At.l0]
    rw [if_neg (by omega)]
theorem placeI_self {l : List S92} {i : Nat} (hi : i < l.length) : (placeI l l[i].f0 = (i : Int)) ↔ placeI (l.take i) l[i].f0 < 0 := by
  have hself : isNm l[i].f0 l[i] = true := by simp [isNm]
  have e : l = l.take i ++ l[i] :: l.drop (i + 1) := by rw [← List.drop_eq_getElem_cons hi, List.take_append_drop]
  cases h : (l.take i).findIdx? (isNm l[i].f0) with
  | none =>
    have h1 : placeI (l.take i) l[i].f0 = -1 := by unfold placeI idxI; rw [h]
    have h0 := List.findIdx?_eq_none_iff.mp h
    have h2 : placeI l l[i].f0 = (i : Int) := idxI_some hi (fun j hj => by
      have hm : l[j] ∈ l.take i := List.mem_take_iff_getElem.mpr ⟨j, by omega, rfl⟩
      simpa using h0 _ hm) hself
    rw [h1, h2]
    simp
  | some j =>
    obtain ⟨hj, hp, hmin⟩ := List.findIdx?_eq_some_iff_getElem.mp h
    have hj2 : j < i := by rw [List.length_take] at hj; omega
    have h1 : placeI (l.take i) l[i].f0 = (j : Int) := by unfold placeI idxI; rw [h]
    have h2 : placeI l l[i].f0 = (j : Int) := idxI_some (by omega) (fun k hk => by
      have := hmin k hk
      simpa using this) (by simpa using hp)
    rw [h1, h2]
    constructor
    · intro h3
      omega
    · intro h3
      omega
def refAt (l : List S92) (i : Nat) : Bool := refB (rd_T92 l (i : Int)) && decide (placeI (l.take i) (rd_T92 l (i : Int)).f0 < 0)
theorem refsB_at (l : List S92) : refsB l = (decide (l.length ≤ 8) && allR (refAt l) l.length) := by
  unfold refsB refAt
  rw [allR_and, all_allR refB z92 l]
  rfl
theorem l04OK_ev (l : List S92) : Ev (fun k => spec_l04OK.f k l) (refsB l) := by
  by_cases h8 : l.length ≤ 8
  · have e : refsB l = (allR (refAt l) l.length && true) := by rw [refsB_at, decide_eq_true h8, Bool.true_and, Bool.and_true]
    rw [e]
    refine Ev.congr (f := fun k => spec_l04OK.l0 k l ((0 : Nat) : Int)) (fun k => by unfold spec_l04OK.f; rw [if_neg (by omega)]; rfl) ?_
    refine ev_all_loop2 (L := fun k i => spec_l04OK.l0 k l i) (p := refAt l) 0 ?_ ?_ (Ev.step (f := fun _ => some true) (fun k => by simp only [spec_l04OK.l0]; rw [if_neg (by omega)]) (Ev.now _)) (Nat.zero_le _) (fun j hj => absurd hj (Nat.not_lt_zero _))
    · intro i _ hi _ hp r hr
      have c1 : (i : Int) < (l.length : Int) := by omega
      have hw := wrap_i (show i < 4611686018427387904 by omega)
      unfold refAt at hp
      rw [rdRef hi] at hp
      simp only [Bool.and_eq_true, decide_eq_true_eq, refB] at hp
      obtain ⟨⟨⟨h1, h2⟩, h3⟩, h4⟩ := hp
      have h4' := (placeI_self hi).mpr h4
      refine Ev.succ (g := fun k => spec_l04OK.l0 k l (i : Int)) ?_
      simp only [spec_l04OK.l0, rdRef hi, c1, Int.natCast_nonneg, if_true]
      refine Ev.bind (h1 ▸ l00Word_ev _) ?_
      simp only [if_true, l01In_is, h2, Option.bind_some]
      refine Ev.bind (h4' ▸ l04At_ev l l[i].f0 (by omega)) ?_
      simp only [if_true, hw]
      cases h5 : l[i].f3 with
      | true =>
        rw [h5] at h3
        simp only [if_true, beq_iff_eq] at h3
        simp only [h3, if_true]
        exact hr
      | false =>
        rw [h5] at h3
        simp only [Bool.false_eq_true, if_false] at h3
        simp only [Bool.false_eq_true, if_false, h3, Option.bind_some, if_true]
        exact hr
    · intro i _ hi _ hp
      have c1 : (i : Int) < (l.length : Int) := by omega
      unfold refAt at hp
      rw [rdRef hi] at hp
      refine Ev.succ (g := fun k => spec_l04OK.l0 k l (i : Int)) ?_
      simp only [spec_l04OK.l0, rdRef hi, c1, Int.natCast_nonneg, if_true]
      refine Ev.bind (l00Word_ev _) ?_
      cases h1 : nameB l[i].f0 with
      | false => simp only [Bool.false_eq_true, if_false]; exact Ev.now _
      | true =>
        simp only [if_true, l01In_is, Option.bind_some]
        cases h2 : inB l[i].f2 1 1000000 with
        | false => simp only [Bool.false_eq_true, if_false]; exact Ev.now _
        | true =>
          simp only [if_true]
          refine Ev.bind (l04At_ev l l[i].f0 (by omega)) ?_
          by_cases h4 : placeI l l[i].f0 = (i : Int)
          · have h4' := (placeI_self hi).mp h4
            simp only [refB, h1, h2, Bool.true_and, decide_eq_true h4', Bool.and_true] at hp
            simp only [h4, if_true]
            cases h5 : l[i].f3 with
            | true =>
              rw [h5] at hp
              simp only [if_true, beq_eq_false_iff_ne] at hp
              simp only [if_true, hp, if_false]
              exact Ev.now _
            | false =>
              rw [h5] at hp
              simp only [Bool.false_eq_true, if_false] at hp
              simp only [Bool.false_eq_true, if_false, hp]
              exact Ev.now _
          · simp only [h4, if_false]
            exact Ev.now _
  · have e : refsB l = false := by unfold refsB; rw [decide_eq_false h8, Bool.false_and]
    rw [e]
    exact Ev.congr (f := fun _ => some false) (fun k => by unfold spec_l04OK.f; rw [if_pos (by omega)]) (Ev.now _)
theorem refsOK_ev (l : List S92) : Ev (fun k => impl_RefsOK.f k l) (refsB l) := by
  by_cases h8 : l.length ≤ 8
  · have n8 : ¬ ((l.length : Int) > 8) := by omega
    cases ha : l.all refB with
    | false =>
      have e : refsB l = false := by unfold refsB; rw [ha, Bool.false_and, Bool.and_false]
      rw [e]
      refine Ev.at_ (c := 1) (fun k => ?_)
      simp only [impl_RefsOK.f, n8, if_false, areAllRef_isRef.f, ha, Option.bind_some, impl_RefsOK.j0, Bool.not_false, if_true]
    | true =>
      have e : refsB l = (allR (fun j => decide (placeI (l.take j) (rd_T92 l (j : Int)).f0 < 0)) l.length && true) := by unfold refsB; rw [decide_eq_true h8, ha, Bool.true_and, Bool.true_and, Bool.and_true]
      rw [e]
      refine Ev.step (f := fun k => impl_RefsOK.l0 k l l (l.length : Int) 0) (fun k => ?_) ?_
      · simp only [impl_RefsOK.f, n8, if_false, areAllRef_isRef.f, ha, Option.bind_some, impl_RefsOK.j0, Bool.not_true, Bool.false_eq_true]
      · refine ev_all_loop (L := fun k i => impl_RefsOK.l0 k l l (l.length : Int) i) ?_ ?_ ?_
        · intro i hi _ hp
          refine ⟨1, 0, fun k => ?_⟩
          have c1 : (i : Int) < (l.length : Int) := by omega
          have c2 : (i : Int) ≤ (l.length : Int) := by omega
          have c3 : ¬ (placeI (l.take i) (rd_T92 l (i : Int)).f0 ≥ 0) := by simp only [decide_eq_true_eq] at hp; omega
          simp only [impl_RefsOK.l0, c1, c2, Int.natCast_nonneg, if_true, impl_place.f, Option.bind_some, Int.toNat_natCast, c3, if_false, wrap_i (show i < 4611686018427387904 by omega), Nat.add_zero]
        · intro i hi _ hp
          refine ⟨1, fun k => ?_⟩
          have c1 : (i : Int) < (l.length : Int) := by omega
          have c2 : (i : Int) ≤ (l.length : Int) := by omega
          have c3 : placeI (l.take i) (rd_T92 l (i : Int)).f0 ≥ 0 := by simp only [decide_eq_false_iff_not] at hp; omega
          simp only [impl_RefsOK.l0, c1, c2, Int.natCast_nonneg, if_true, impl_place.f, Option.bind_some, Int.toNat_natCast, c3]
        · refine Ev.at_ (c := 1) (fun k => ?_)
          simp only [impl_RefsOK.l0]
          rw [if_neg (by omega)]
  · have e : refsB l = false := by unfold refsB; rw [decide_eq_false h8, Bool.false_and]
    rw [e]
    refine Ev.at_ (c := 1) (fun k => ?_)
    unfold impl_RefsOK.f
    rw [if_pos (by omega)]
    simp only [impl_RefsOK.j0, if_true]
end Go.Proofs.Ytekoaaiemmblgaa.Q
end

section
namespace Go.Proofs.Ytekoaaiemmblgaa.Q
open Go.RowKit Go.Proofs.YtekoaaiemmblgaaW.PrintWords Go.Proofs.YtekoaaiemmblgaaW.PrintLast
set_option linter.unusedVariables false
set_option linter.unusedSimpArgs false
theorem szBase_ev (a : List S75) (b : List S118) (ha : a.length ≤ 9223372036854775807 ∧ ∀ x, x ∈ a → good75 x) (hb : b.length ≤ 9223372036854775807 ∧ ∀ x, x ∈ b → good118 x) (left : Int) (h0 : 0 ≤ left) (h1 : left ≤ 1048576) :
    ∃ r, Ev (fun k => laws_szBase.f k a b left) r ∧ r ≤ left ∧ (0 ≤ r → (a.length ≤ 1048576 ∧ ∀ x, x ∈ a → fitC x) ∧ b.length ≤ 1048576) := by
  obtain ⟨r, hr, hrl, hrs⟩ := szCommitS_ev a ha.1 ha.2 left h0 h1
  unfold laws_szBase.f
  by_cases hn : r < 0
  · exact ⟨-1, Ev.bind hr (by simp only [hn, if_true]; exact Ev.now _), by omega, by omega⟩
  · obtain ⟨r2, hr2, hrl2, hrs2⟩ := szRefS_ev b hb.1 hb.2 r (by omega) (by omega)
    by_cases hn2 : r2 < 0
    · exact ⟨-1, Ev.bind hr (by simp only [hn, if_false]; exact Ev.bind hr2 (by simp only [hn2, if_true]; exact Ev.now _)), by omega, by omega⟩
    · exact ⟨r2, Ev.bind hr (by simp only [hn, if_false]; exact Ev.bind hr2 (by simp only [hn2, if_false]; exact Ev.now _)), by omega, fun h => ⟨hrs (by omega), hrs2 h⟩⟩
theorem toBase_ev (a : List S75) (b : List S118) (ha : a.length ≤ 1048576) (hf : ∀ x, x ∈ a → fitC x) (hb : b.length ≤ 1048576) : Ev (fun k => laws_toBase.f k a b) (a.map cvCommit, b.map cvRef) := by
  unfold laws_toBase.f
  exact Ev.bind (toCommitS_ev a ha hf) (Ev.bind (toRefS_ev b hb) (Ev.now _))
theorem eqBase_ev (a : List S78) (b : List S92) (ha : a.length ≤ 1048576) (hf : ∀ x, x ∈ a → x.f0.length ≤ 1048576 ∧ x.f1.length ≤ 1048576) (hb : b.length ≤ 1048576) : Ev (fun k => laws_eqBase.f k a b a b) true := by
  unfold laws_eqBase.f
  refine Ev.bind (eqCommitS_ev a ha hf) ?_
  simp only [if_true]
  refine Ev.bind (eqRefS_ev b hb) ?_
  simp only [if_true]
  exact Ev.now _
def baseB (st : List S78) (rf : List S92) : Bool := storeB st && (refsB rf && rf.all (fun x => decide (x.f1 ≤ (st.length : Int))))
theorem refsB_few {l : List S92} (h : refsB l = true) : l.length ≤ 8 := by
  unfold refsB at h
  simp only [Bool.and_eq_true, decide_eq_true_eq] at h
  exact h.1
theorem l05OK_ev (st : List S78) (rf : List S92) : Ev (fun k => spec_l05OK.f k st rf) (baseB st rf) := by
  unfold spec_l05OK.f baseB
  refine Ev.bind (l03OK_ev st) ?_
  cases hs : storeB st with
  | false =>
    simp only [Bool.false_eq_true, if_false, Bool.false_and]
    exact Ev.at_ (c := 1) (fun k => by simp only [spec_l05OK.j0, if_true])
  | true =>
    simp only [if_true, Bool.true_and]
    refine Ev.bind (l04OK_ev rf) ?_
    cases hr : refsB rf with
    | false =>
      simp only [Bool.false_and, Bool.not_false]
      exact Ev.at_ (c := 1) (fun k => by simp only [spec_l05OK.j0, if_true])
    | true =>
      have h8 := refsB_few hr
      simp only [Bool.true_and, Bool.not_true]
      refine Ev.succ ?_
      simp only [spec_l05OK.j0, Bool.false_eq_true, if_false]
      have h := ev_all_loop (L := fun k i => spec_l05OK.l0 k i st rf) (n := rf.length) (p := fun i => decide ((rf.getD i z92).f1 ≤ (st.length : Int))) (fin := true) (fun i hi _ hp => by
        have c1 : (i : Int) < (rf.length : Int) := by omega
        have e1 : rd_T92 rf (i : Int) = rf.getD i z92 := rfl
        rw [decide_eq_true_eq] at hp
        have c2 : ¬ (rf.getD i z92).f1 > (st.length : Int) := by omega
        exact ⟨1, 0, fun k => by simp only [spec_l05OK.l0, c1, Int.natCast_nonneg, if_true, e1, c2, if_false, wrap_i (show i < 4611686018427387904 by omega), Nat.add_zero]⟩) (fun i hi _ hp => by
        have c1 : (i : Int) < (rf.length : Int) := by omega
        have e1 : rd_T92 rf (i : Int) = rf.getD i z92 := rfl
        rw [decide_eq_false_iff_not] at hp
        have c2 : (rf.getD i z92).f1 > (st.length : Int) := by omega
        exact ⟨1, fun k => by simp only [spec_l05OK.l0, c1, Int.natCast_nonneg, if_true, e1, c2]⟩) (Ev.at_ (c := 1) (fun k => by
        simp only [spec_l05OK.l0]
        rw [if_neg (by omega)]))
      rw [Bool.and_true] at h
      rw [all_allR (fun x => decide (x.f1 ≤ (st.length : Int))) z92 rf]
      exact h
theorem baseOK_ev (st : List S78) (rf : List S92) (hs : st.length ≤ 1048576) (hf : ∀ x, x ∈ st → x.f1.length ≤ 1048576) : Ev (fun k => impl_BaseOK.f k st rf) (baseB st rf) := by
  unfold impl_BaseOK.f baseB
  refine Ev.bind (storeOK_ev st hs hf) ?_
  cases storeB st with
  | false => simp only [Bool.false_eq_true, if_false, Bool.false_and]; exact Ev.now _
  | true =>
    simp only [if_true, Bool.true_and]
    refine Ev.bind (refsOK_ev rf) ?_
    cases refsB rf with
    | false => simp only [Bool.false_eq_true, if_false, Bool.false_and]; exact Ev.now _
    | true => simp only [if_true, Bool.true_and, areAllRef_baseOK.f, Option.bind_some]; exact Ev.now _
end Go.Proofs.Ytekoaaiemmblgaa.Q
end

section
namespace Go.Proofs.Ytekoaaiemmblgaa.Q
open Go.RowKit Go.Proofs.YtekoaaiemmblgaaW.PrintWords Go.Proofs.YtekoaaiemmblgaaW.PrintLast
set_option linter.unusedVariables false
set_option linter.unusedSimpArgs false
theorem placeI_cases (l : List S92) (n : ByteArray) : placeI l n = -1 ∨ ∃ (i : Nat) (hi : i < l.length), placeI l n = (i : Int) ∧ l[i].f0 = n := by
  unfold placeI idxI
  cases h : l.findIdx? (isNm n) with
  | none => exact .inl rfl
  | some i =>
    obtain ⟨hi, hp, _⟩ := List.findIdx?_eq_some_iff_getElem.mp h
    refine .inr ⟨i, hi, rfl, toList_inj ?_⟩
    simpa [isNm] using hp
theorem live_none {l : List S92} {n : ByteArray} (h : placeI l n = -1) : impl_live.f l n = some (-1, false) := by
  unfold impl_live.f impl_place.f
  rw [h]
  simp
theorem live_some {l : List S92} {n : ByteArray} {i : Nat} (hi : i < l.length) (h : placeI l n = (i : Int)) : impl_live.f l n = some ((i : Int), !l[i].f3) := by
  have c1 : (i : Int) < (l.length : Int) := by omega
  have c2 : (i : Int) ≥ 0 := by omega
  unfold impl_live.f impl_place.f
  simp only [h, Option.bind_some, c1, c2, Int.natCast_nonneg, if_true, rdRef hi]
theorem l04Live_none {l : List S92} {n : ByteArray} (hl : l.length ≤ 1048576) (h : placeI l n = -1) : Ev (fun k => spec_l04Live.f k l n) (-1) := by
  unfold spec_l04Live.f
  refine Ev.bind (h ▸ l04At_ev l n hl) ?_
  exact Ev.now _
theorem l04Live_some {l : List S92} {n : ByteArray} {i : Nat} (hl : l.length ≤ 1048576) (hi : i < l.length) (h : placeI l n = (i : Int)) : Ev (fun k => spec_l04Live.f k l n) (if l[i].f3 = true then -1 else (i : Int)) := by
  have c1 : (i : Int) < (l.length : Int) := by omega
  have c2 : (i : Int) ≥ 0 := by omega
  unfold spec_l04Live.f
  refine Ev.bind (h ▸ l04At_ev l n hl) ?_
  simp only [c1, c2, Int.natCast_nonneg, if_true, rdRef hi]
  cases l[i].f3
  · simp only [Bool.false_eq_true, if_false]; exact Ev.now _
  · simp only [if_true]; exact Ev.now _
end Go.Proofs.Ytekoaaiemmblgaa.Q
end

section
namespace Go.Proofs.Ytekoaaiemmblgaa.Pure
open Go.RowKit Go.Proofs.Ytekoaaiemmblgaa.Q Go.Proofs.YtekoaaiemmblgaaW.PrintWords Go.Proofs.YtekoaaiemmblgaaW.PrintLast
set_option linter.unusedVariables false
set_option linter.unusedSimpArgs false
theorem open_both (st : List S78) (rf : List S92) (n : ByteArray) (hs : st.length ≤ 1048576) (hf : ∀ x, x ∈ st → x.f1.length ≤ 1048576) (hr : rf.length ≤ 1048576) :
    ∃ a b c, Ev (fun k => spec_OpenSnap.f k st rf n) (a, b, c) ∧ Ev (fun k => impl_OpenSnap.f k st rf n) (a, b, c) := by
  unfold spec_OpenSnap.f impl_OpenSnap.f impl_isText.f
  by_cases h1 : (n.size : Int) > 65536
  · have h2 : ¬ (n.size : Int) ≤ 65536 := by omega
    exact ⟨_, _, _, by simp only [h1, if_true]; exact Ev.now _, by simp only [Option.bind_some, h2, decide_false, Bool.false_eq_true, if_false]; exact Ev.now _⟩
  have h2 : (n.size : Int) ≤ 65536 := by omega
  simp only [h1, if_false, Option.bind_some, h2, decide_true, if_true]
  have hS := l05OK_ev st rf
  have hI := baseOK_ev st rf hs hf
  cases hb : baseB st rf with
  | false =>
    rw [hb] at hS hI
    exact ⟨_, _, _, Ev.bind hS (by simp only [Bool.false_eq_true, if_false]; exact Ev.now _), Ev.bind hI (by simp only [Bool.false_eq_true, if_false]; exact Ev.now _)⟩
  | true =>
    rw [hb] at hS hI
    rcases placeI_cases rf n with hp | ⟨i, hi, hp, hnm⟩
    · refine ⟨(⟨#[]⟩ : ByteArray), 0, 10, Ev.bind hS ?_, Ev.bind hI ?_⟩
      · simp only [if_true]
        exact Ev.bind (l04Live_none hr hp) (Ev.now _)
      · simp only [if_true, live_none hp, Option.bind_some, Bool.false_eq_true, if_false]
        exact Ev.now _
    · have c1 : (i : Int) < (rf.length : Int) := by omega
      cases hg : rf[i].f3 with
      | true =>
        refine ⟨(⟨#[]⟩ : ByteArray), 0, 10, Ev.bind hS ?_, Ev.bind hI ?_⟩
        · simp only [if_true]
          refine Ev.bind (l04Live_some hr hi hp) ?_
          simp only [hg, if_true]
          exact Ev.now _
        · simp only [if_true, live_some hi hp, hg, Option.bind_some, Bool.not_true, Bool.false_eq_true, if_false]
          exact Ev.now _
      | false =>
        have n1 : ¬ (i : Int) < 0 := by omega
        refine ⟨n, rf[i].f1, 0, Ev.bind hS ?_, Ev.bind hI ?_⟩
        · simp only [if_true]
          refine Ev.bind (l04Live_some hr hi hp) ?_
          simp only [hg, Bool.false_eq_true, if_false, n1, Int.natCast_nonneg, c1, if_true, rdRef hi]
          exact Ev.now _
        · simp only [if_true, live_some hi hp, hg, Option.bind_some, Bool.not_false, Int.natCast_nonneg, c1, rdRef hi]
          exact Ev.now _
theorem FnExactOpenSnap : laws_FnExactOpenSnap.Pure := by
  intro l0 l1 a1 w0 w1
  refine Ev.rounds ?_
  unfold laws_FnExactOpenSnap.f
  by_cases hn1 : (a1.size : Int) > 1048576
  · simp only [hn1, if_true]
    exact Ev.now _
  simp only [hn1, if_false]
  obtain ⟨r, hr, hrl, hrs⟩ := szBase_ev l0 l1 w0.1 w0.2 1048576 (by omega) (by omega)
  refine Ev.bind hr ?_
  by_cases hn : r < 0
  · simp only [hn, if_true]
    exact Ev.now _
  simp only [hn, if_false]
  obtain ⟨⟨hl, hf⟩, hb⟩ := hrs (by omega)
  have ht := toBase_ev l0 l1 hl hf hb
  have hf2 := fit_cv hf
  have hl2 : (l0.map cvCommit).length ≤ 1048576 := by simpa using hl
  have hb2 : (l1.map cvRef).length ≤ 1048576 := by simpa using hb
  obtain ⟨a, b, c, hs, hi⟩ := open_both (l0.map cvCommit) (l1.map cvRef) a1 hl2 (fun x hx => (hf2 x hx).2) hb2
  refine Ev.bind ht (Ev.bind hs (Ev.bind ht (Ev.bind hi ?_)))
  simp only [laws_eqSnap.f, if_true, Option.bind_some, bne_self_eq_false]
  refine Ev.succ ?_
  simp only [laws_FnExactOpenSnap.j0, Bool.false_eq_true, if_false]
  refine Ev.bind ht (Ev.bind (eqBase_ev _ _ hl2 hf2 hb2) ?_)
  simp only [if_true]
  exact Ev.now _
end Go.Proofs.Ytekoaaiemmblgaa.Pure
end
