/- Parts of the proof of the law FnExactDecodeCommit, joined into one text. -/
import Derived.Test.YtjkjnfooaglnkaaProg
import Derived.Below
import Derived.Deep.Draws
import Derived.Deep.AppendLies
import Derived.Maps.AppendAt
import Derived.OwnWalk
import Derived.Laws.BytesArg
import Derived.Laws.MakeOwn
import Derived.Laws.OwnMore
import Derived.Deep.OwnRows
import Derived.Tactics
import Derived.Lib.ConvBytes
import Derived.Laws.Slices
import Derived.WalkKit
import Derived.KernelRfl
import Derived.RowKit3
import Derived.Deep.LoopGhost
import Derived.Deep.QuietTactic
import Derived.BigQuiet
import Derived.WideLaws
import Derived.Deep.DeepCutAuto
import Derived.Deep.CutBlock
import Derived.Deep.RegionHeld3
import Derived.Laws.Rows
import Derived.Lib.AppendStr
import Derived.ArgAppend
import Derived.Laws.IdiomCopy
import Derived.OrdersHeld
import Derived.Laws.BitsLemmas
import Derived.RowKit
import Derived.Test.YtjkjnfooaglnkaaWWords
import Derived.Test.YtjkjnfooaglnkaaWLast
import Derived.Test.YtjkjnfooaglnkaaWTab
import Derived.Test.YtjkjnfooaglnkaaWQPut
import Derived.Test.YtjkjnfooaglnkaaWApart
import Derived.Test.YtjkjnfooaglnkaaWArr
import Derived.Test.YtjkjnfooaglnkaaWZeros
import Derived.Test.YtjkjnfooaglnkaaWFoot
import Derived.Test.YtjkjnfooaglnkaaWKept
import Derived.Test.YtjkjnfooaglnkaaWShare
import Derived.Test.YtjkjnfooaglnkaaWN
import Derived.Test.YtjkjnfooaglnkaaWRepsOne
import Derived.Test.YtjkjnfooaglnkaaWGuard
import Derived.Test.YtjkjnfooaglnkaaWNEv
import Derived.Test.YtjkjnfooaglnkaaWMore
import Derived.Lib.EndianBits
section
namespace Go.Proofs.Ytjkjnfooaglnkaa.Q
open Go.RowKit Go.Proofs.YtjkjnfooaglnkaaW.PrintWords Go.Proofs.YtjkjnfooaglnkaaW.PrintLast Go.Proofs.YtjkjnfooaglnkaaW.PrintMore
attribute [local go_sem] max2_int min2_int max_two min_two max_three min_three max_four min_four   -- for this text's walks alone
set_option linter.unusedVariables false
set_option linter.unusedSimpArgs false
def errW : Option Int → Value
  | none => .nilIface
  | some c => .iface 0 (.int .i64 c)
theorem errW_none : errW none = .nilIface := rfl
theorem errW_some (c : Int) : errW (some c) = .iface 0 (.int .i64 c) := rfl
theorem info3 : (Try.prog.info? 3).map (fun i => (i.zero, i.size, i.bytes)) = some (some (.int .i64 0), 1, 8) := by kernel_rfl
theorem info90 : (Try.prog.info? 90).map (fun i => (i.zero, i.size, i.bytes)) = some (some (.agg #[(.string ⟨#[]⟩), (.int .i64 0)]), 2, 24) := by kernel_rfl
structure S90 where
  f0 : ByteArray
  f1 : Int
def z90 : S90 := ⟨(⟨#[]⟩ : ByteArray), (0 : Int)⟩
def k90 : Kd S90 := Kd.iso (Kd.pair Kd.string (Kd.int .i64)) (fun x : S90 => (x.f0, x.f1))
theorem k90_open {w : World} {x : S90} {cs : List Value} (h : k90.K w x cs) : cs = [.string x.f0, .int .i64 x.f1] := by
  obtain ⟨_, _, rfl, rfl, rfl⟩ := h
  exact rfl
theorem k90_openM {w : World} {base : Nat} {ok : Nat → Prop} {x : S90} {cs : List Value} (h : k90.M w base ok x cs) : cs = [.string x.f0, .int .i64 x.f1] := by
  obtain ⟨_, _, rfl, rfl, rfl⟩ := h
  exact rfl
theorem k90_mkM (w : World) (base : Nat) (ok : Nat → Prop) (x : S90)  : k90.M w base ok x [.string x.f0, .int .i64 x.f1] := ⟨[.string x.f0], [.int .i64 x.f1], rfl, rfl, rfl⟩
def rd_T90 (xs : List S90) (i : Int) : S90 := xs.getD i.toNat z90
theorem at_T90 {w : World} {A : Option Addr} {n : Nat} {xs : List S90} (h : Kd.C k90 w A n xs) (i : Int) (h0 : 0 ≤ i) (h1 : i < n) : ∃ ad , A = some ad ∧ w.cell? (ad.add (i.toNat * 2)) = some (.string (rd_T90 xs i).f0) ∧ w.cell? ⟨(ad.add (i.toNat * 2)).block, (ad.add (i.toNat * 2)).off + 1, none⟩ = some (.int .i64 (rd_T90 xs i).f1) := by
  obtain ⟨ad, c, e, _, hK, hc0⟩ := Kd.C_get h z90 i h0 h1
  have hc : ∀ j u, c[j]? = some u → w.cell? (ad.add (i.toNat * 2 + j)) = some u := hc0
  obtain rfl := k90_open hK
  exact ⟨ad, e, hc 0 _ rfl, by rw [← add_field _ _ 1 (by omega)]; exact hc 1 _ rfl⟩
end Go.Proofs.Ytjkjnfooaglnkaa.Q
end

section
namespace Go.Proofs.Ytjkjnfooaglnkaa.Q
open Go.RowKit Go.Proofs.YtjkjnfooaglnkaaW.PrintWords Go.Proofs.YtjkjnfooaglnkaaW.PrintLast Go.Proofs.YtjkjnfooaglnkaaW.PrintMore
attribute [local go_sem] max2_int min2_int max_two min_two max_three min_three max_four min_four   -- for this text's walks alone
set_option linter.unusedVariables false
set_option linter.unusedSimpArgs false
theorem bW {b : Nat} {w w' : World} (h : Below b w w' := by repeat (first | (with_reducible first | exact HB.out | apply below_alloc | apply pw_below_drewN | apply below_drew1 | (refine below_set ?_ (Aside0.out ?_); rotate_left; assumption)) | exact HB.out)) : Below b w w' := h
theorem gS {w W : World} {g : Nat} (hg : g = W.heap.size) (h : Below w.heap.size w W := by repeat (first | (with_reducible first | exact HB.out | apply below_alloc | apply pw_below_drewN | apply below_drew1 | (refine below_set ?_ (Aside0.out ?_); rotate_left; assumption)) | exact HB.out)) : w.heap.size ≤ g := by rw [hg]; exact below_size h
theorem kB {W0 W : World} {g : Nat} {o : Obj} (_h : Aside0 (W0.heap[g]? = some o)) (hs : W.heap[g]? = some o := by (with_reducible repeat (first | refine blk_drewN ?_ _ | refine blk_drew ?_ | refine blk_alloc ?_ _)); exact Aside0.out (by first | with_reducible assumption | assumption)) : W.heap[g]? = some o := hs
theorem kb {W0 W w1 : World} {g : Nat} {o : Obj} (_h : Aside0 (W0.heap[g]? = some o)) (hb : Below W.heap.size W w1) (hs : W.heap[g]? = some o := by (with_reducible repeat (first | refine blk_drewN ?_ _ | refine blk_drew ?_ | refine blk_alloc ?_ _)); exact Aside0.out (by first | with_reducible assumption | assumption)) : w1.heap[g]? = some o := blk_below hs hb
theorem nL {W0 W : World} {g g' : Nat} {o : Obj} (_h : Aside0 (W0.heap[g]? = some o)) (hg : g' = W.heap.size) (hs : W.heap[g]? = some o := by (with_reducible repeat (first | refine blk_drewN ?_ _ | refine blk_drew ?_ | refine blk_alloc ?_ _)); exact Aside0.out (by first | with_reducible assumption | assumption)) : g ≠ g' := by rw [hg]; exact Nat.ne_of_lt (blk_lt hs)
theorem nG {W0 W : World} {g g' : Nat} {o : Obj} (_h : Aside0 (W0.heap[g]? = some o)) (hg : g' = W.heap.size) (hs : W.heap[g]? = some o := by (with_reducible repeat (first | refine blk_drewN ?_ _ | refine blk_drew ?_ | refine blk_alloc ?_ _)); exact Aside0.out (by first | with_reducible assumption | assumption)) : g' ≠ g := by rw [hg]; exact Nat.ne_of_gt (blk_lt hs)
theorem cz2 {w : World} {g : Nat} {t : TypeId} {a b : Value} (h : Aside0 (w.heap[g]? = some (.cells #[a, b] t (0, 0)))) : w.cell? ⟨g, 0, none⟩ = some a ∧ w.cell? ⟨g, 1, none⟩ = some b := ⟨(blk_cell h.out 0).trans rfl, (blk_cell h.out 1).trans rfl⟩
theorem fz1 {w : World} {g : Nat} {t : TypeId} {cs : Array Value} (h : Aside0 (w.heap[g]? = some (.cells cs t (0, 0)))) : w.frozen? ⟨g, 0, none⟩ = false := blk_frozen h.out 0
theorem fz2 {w : World} {g : Nat} {t : TypeId} {cs : Array Value} (h : Aside0 (w.heap[g]? = some (.cells cs t (0, 0)))) : w.frozen? ⟨g, 0, none⟩ = false ∧ w.frozen? ⟨g, 1, none⟩ = false := ⟨blk_frozen h.out 0, blk_frozen h.out 1⟩
theorem cB {α : Type} {d : Kd α} {W0 W : World} {A : Option Addr} {n : Nat} {xs : List α} (_h : Aside0 (d.C W0 A n xs)) (hs : d.C W A n xs := by repeat (first | exact (Kd.C_below (Aside0.out (by first | with_reducible assumption | assumption)) HB.out) | (with_reducible refine Kd.C_alloc ?_ _) | (with_reducible refine Kd.C_drewN ?_ _) | (with_reducible refine Kd.C_drew ?_))) : d.C W A n xs := hs
theorem gA {α : Type} {x y : α} (h : x = y := by (try simp only [List.map_toArray, List.map_cons, List.map_nil]); first | done | rfl | (simp only [List.length_drop, List.length_take]; rfl)) : x = y := h
theorem odt {p : Prop} [Decidable p] (h : decide p = true := by first | (with_reducible assumption) | assumption) : p := of_decide_eq_true h
theorem vE {α : Type} {x y : α} (h : x = y := by first | rfl | (simp; done) | (simp; exact isEmpty_bne_ _) | (simp [*]; done)) : x = y := h
theorem rE {α : Type} {x y : α} (h : x = y := by first | rfl | (simp [errW_none, errW_some] <;> rfl) | (simp [*, errW_none, errW_some] <;> rfl)) : x = y := h
theorem pR {α : Type} {d : Kd α} {e base : Nat} {W0 W : World} {ok : Nat → Prop} {v : Value} {xs : List α} (_h : Aside0 (d.R e W0 base ok v xs)) (hs : d.R e W base ok v xs := by (with_reducible repeat (first | apply Kd.R_alloc | apply Kd.R_drewN | apply Kd.R_drew)); exact Aside0.out (by first | with_reducible assumption | assumption)) : d.R e W base ok v xs := hs
section
variable {P : Program} {ops : Array Oper} {rest : List Oper} {o : Oper} {a : Act} {Q : Exit → Act → World → Prop}
theorem bE {W : World} {N : Tmp} {cs : Array Value} {t : TypeId}
    (h : ∀ g, g = W.heap.size → ∀ w1, w1.heap[g]? = some (.cells cs t (0, 0)) → Below W.heap.size W w1 → wpList P ops Q rest (a.put o.dst (.pointer (some ⟨g, 0, none⟩))) w1)
    (hgd : o.guard = none := by rfl) (hd : o.dst = some N := by rfl)
    (hrun : (execOp a.eval o).run P W = .ok (.value (.pointer (some ⟨W.heap.size, 0, none⟩))) (W.alloc (.cells cs t (0, 0))) := by first | (go_simp; done) | (go_simp; rfl)) : wpList P ops Q (o :: rest) a W :=
  box_event hgd hd hrun h
end
theorem bl_irrefl : ∀ x : List UInt8, Op.bytesLess x x = false
  | [] => rfl
  | a :: x => by simp [Op.bytesLess, bl_irrefl x]
theorem bl_trans : ∀ {x y z : List UInt8}, Op.bytesLess x y = true → Op.bytesLess y z = true → Op.bytesLess x z = true
  | _, [], _, h, _ => by
    cases ‹List UInt8› <;> simp [Op.bytesLess] at h
  | _, _ :: _, [], _, h => by simp [Op.bytesLess] at h
  | [], _ :: _, _ :: _, _, _ => by simp [Op.bytesLess]
  | a :: x, b :: y, c :: z, h, k => by
    simp only [Op.bytesLess, Bool.or_eq_true, Bool.and_eq_true, decide_eq_true_eq, beq_iff_eq] at h k ⊢
    rcases h with h | ⟨rfl, h⟩ <;> rcases k with k | ⟨rfl, k⟩
    · exact .inl (UInt8.lt_trans h k)
    · exact .inl h
    · exact .inl k
    · exact .inr ⟨rfl, bl_trans h k⟩
theorem bl_asymm {x y : List UInt8} (h : Op.bytesLess x y = true) : Op.bytesLess y x = false := by
  cases k : Op.bytesLess y x with
  | false => rfl
  | true => rw [← bl_irrefl x]; exact (bl_trans h k).symm
theorem bl_tri : ∀ {x y : List UInt8}, Op.bytesLess x y = false → Op.bytesLess y x = false → x = y
  | [], [], _, _ => rfl
  | [], _ :: _, h, _ => by simp [Op.bytesLess] at h
  | _ :: _, [], _, h => by simp [Op.bytesLess] at h
  | a :: x, b :: y, h, k => by
    simp only [Op.bytesLess, Bool.or_eq_false_iff, Bool.and_eq_false_iff, decide_eq_false_iff_not, beq_eq_false_iff_ne] at h k
    have e : a = b := by
      have h1 := h.1
      have k1 := k.1
      apply UInt8.le_antisymm
      · exact UInt8.not_lt.mp k1
      · exact UInt8.not_lt.mp h1
    subst e
    rw [bl_tri (h.2.resolve_left (fun g => g rfl)) (k.2.resolve_left (fun g => g rfl))]
def sblt (a b : ByteArray) : Bool := Op.bytesLess a.toList b.toList
theorem bin_leq (t : TypeId) (a b : ByteArray) : binOp .leq t (.string a) (.string b) = pure (.bool (!(Op.bytesLess b.toList a.toList))) := by
  have h : (Op.bytesLess a.toList b.toList || a.toList == b.toList) = !(Op.bytesLess b.toList a.toList) := by
    cases h1 : Op.bytesLess b.toList a.toList with
    | true =>
      rw [bl_asymm h1]
      have h2 : a.toList ≠ b.toList := by
        intro e
        rw [e, bl_irrefl] at h1
        cases h1
      simp [h2]
    | false =>
      cases h2 : Op.bytesLess a.toList b.toList with
      | true => rfl
      | false => simp [bl_tri h2 h1]
  simp [binOp, Op.stringOp, h]
theorem bin_geq (t : TypeId) (a b : ByteArray) : binOp .geq t (.string a) (.string b) = pure (.bool (!(Op.bytesLess a.toList b.toList))) := by simp [binOp, Op.stringOp]
theorem bin_gtr (t : TypeId) (a b : ByteArray) : binOp .gtr t (.string a) (.string b) = pure (.bool (Op.bytesLess b.toList a.toList)) := by
  have h : (!(Op.bytesLess a.toList b.toList || a.toList == b.toList)) = Op.bytesLess b.toList a.toList := by
    cases h1 : Op.bytesLess b.toList a.toList with
    | true =>
      rw [bl_asymm h1]
      have h2 : a.toList ≠ b.toList := by
        intro e
        rw [e, bl_irrefl] at h1
        cases h1
      simp [h2]
    | false =>
      cases h2 : Op.bytesLess a.toList b.toList with
      | true => rfl
      | false => simp [bl_tri h2 h1]
  simp only [binOp, Op.stringOp, h]
theorem drawn_then {w w1 w2 : World} (h : Drawn0 w w1) (k : Drawn0 w1 w2) : Drawn0 w w2 := by
  obtain ⟨n, rfl⟩ := h
  obtain ⟨m, rfl⟩ := k
  exact ⟨⟨n + m, World.drewN_drewN ..⟩⟩
theorem drawn_q {w : World} (n : Nat) : Drawn0 w (w.drewN n) := ⟨⟨n, rfl⟩⟩
theorem C_drawn {α : Type} {d : Kd α} {w w1 : World} {A : Option Addr} {n : Nat} {xs : List α} (h : Kd.C d w A n xs) (k : Drawn0 w w1) : Kd.C d w1 A n xs := Kd.C_below h k.below
theorem quiet_ {P : Program} {f : FuncId} {args : Array Value} {w : World} {n : Nat} {v : Value} (h : Calls P f args (w.drewN n) fun e w' => e = .returned v ∧ Drawn0 (w.drewN n) w') : Calls P f args (w.drewN n) fun e w'' => e = .returned v ∧ ∃ m, w'' = w.drewN m :=
  Calls.quiet_of (h.mono fun _ _ hh => ⟨hh.1, hh.2.out⟩)
def allR (p : Nat → Bool) (n : Nat) : Bool := (List.range n).all p
theorem allR_true {p : Nat → Bool} {n : Nat} (h : ∀ j, j < n → p j = true) : allR p n = true := by simpa [allR] using h
theorem allR_false {p : Nat → Bool} {n j : Nat} (hj : j < n) (h : p j = false) : allR p n = false := by
  rw [Bool.eq_false_iff]
  intro ha
  have := (List.all_eq_true.mp ha) j (List.mem_range.mpr hj)
  rw [h] at this
  cases this
theorem isEmpty_bne_ (l : List UInt8) : l.isEmpty = !(l != []) := by cases l <;> rfl
end Go.Proofs.Ytjkjnfooaglnkaa.Q
end

section
namespace Go.Proofs.Ytjkjnfooaglnkaa.Q
open Go.RowKit Go.Proofs.YtjkjnfooaglnkaaW.PrintWords Go.Proofs.YtjkjnfooaglnkaaW.PrintLast Go.Proofs.YtjkjnfooaglnkaaW.PrintMore
attribute [local go_sem] max2_int min2_int max_two min_two max_three min_three max_four min_four   -- for this text's walks alone
set_option linter.unusedVariables false
set_option linter.unusedSimpArgs false
attribute [local go_sem] bin_leq bin_gtr bin_geq
theorem kF {W0 W : World} {g : Nat} {o : Obj} (_h : Aside0 (W0.heap[g]? = some o)) (hs : W.heap[g]? = some o := by (with_reducible repeat (first | refine blk_drewN ?_ _ | refine blk_drew ?_ | refine blk_alloc ?_ _ | refine blk_far ?_ (Aside0.out (by first | with_reducible assumption | assumption)) _)); exact Aside0.out (by first | with_reducible assumption | assumption)) : W.heap[g]? = some o := hs
theorem kbF {W0 W w1 : World} {g : Nat} {o : Obj} (_h : Aside0 (W0.heap[g]? = some o)) (hb : Below W.heap.size W w1) (hs : W.heap[g]? = some o := by (with_reducible repeat (first | refine blk_drewN ?_ _ | refine blk_drew ?_ | refine blk_alloc ?_ _ | refine blk_far ?_ (Aside0.out (by first | with_reducible assumption | assumption)) _)); exact Aside0.out (by first | with_reducible assumption | assumption)) : w1.heap[g]? = some o := blk_below hs hb
theorem pt : (∀ (a : Act) (N : Option Tmp) (v : Value), a.put N v = match N with | none => a | some d => { a with tmps := a.tmps.setIfInBounds d v }) ∧ (∀ (l : List Value) (i : Nat) (x : Value), l.toArray.setIfInBounds i x = (l.set i x).toArray) ∧ (∀ (x y : Value) (l : List Value), (x :: l).set 0 y = y :: l) ∧ (∀ (x y : Value) (l : List Value) (n : Nat), (x :: l).set (n + 1) y = x :: l.set n y) :=
  ⟨fun _ N _ => by cases N <;> rfl, fun _ _ _ => by simp, fun _ _ _ => rfl, fun _ _ _ _ => rfl⟩
end Go.Proofs.Ytjkjnfooaglnkaa.Q
end

section
namespace Go.Proofs.Ytjkjnfooaglnkaa.Q
open Go.RowKit Go.Proofs.YtjkjnfooaglnkaaW.PrintWords Go.Proofs.YtjkjnfooaglnkaaW.PrintLast Go.Proofs.YtjkjnfooaglnkaaW.PrintMore
attribute [local go_sem] max2_int min2_int max_two min_two max_three min_three max_four min_four   -- for this text's walks alone
set_option linter.unusedVariables false
set_option linter.unusedSimpArgs false
attribute [local go_sem] bin_leq bin_gtr bin_geq
mutual
def spec_l11Take.l0 : Nat → ByteArray → Int → Int → Int → Int → Option (Int × Int × Bool)
  | 0, _, _, _, _, _ => none
  | k + 1, x0, x1, x7, x8, x9 => if x9 < (x0.size : Int) then (spec_l11Take.j1 k x0 x1 x7 x8 x9 (decide (x9 < (wrap64 (x1 + 4))))) else (spec_l11Take.j1 k x0 x1 x7 x8 x9 false)
def spec_l11Take.j1 : Nat → ByteArray → Int → Int → Int → Int → Bool → Option (Int × Int × Bool)
  | 0, _, _, _, _, _, _ => none
  | k + 1, x0, x1, x7, x8, x9, x21 => if x21 = true then (if 0 ≤ x9 then (if x9 < (x0.size : Int) then (if (wrap64 (bt x0 x9)) < 128 then (if (wrap64 (x7 + (wrap64 ((Int.tmod (wrap64 (bt x0 x9)) 128) * x8)))) ≤ 4000000 then (if (wrap64 (bt x0 x9)) > 0 then (some (wrap64 (x7 + (wrap64 ((Int.tmod (wrap64 (bt x0 x9)) 128) * x8))), wrap64 (x9 + 1), true)) else (some (wrap64 (x7 + (wrap64 ((Int.tmod (wrap64 (bt x0 x9)) 128) * x8))), wrap64 (x9 + 1), (x9 == x1)))) else (some (wrap64 (x7 + (wrap64 ((Int.tmod (wrap64 (bt x0 x9)) 128) * x8))), wrap64 (x9 + 1), false))) else (spec_l11Take.l0 k x0 x1 (wrap64 (x7 + (wrap64 ((Int.tmod (wrap64 (bt x0 x9)) 128) * x8)))) (wrap64 (x8 * 128)) (wrap64 (x9 + 1)))) else (none)) else (none)) else (some (0, 0, false))
end
def spec_l11Take.f (k : Nat) (a0 : ByteArray) (a1 : Int) : Option (Int × Int × Bool) := spec_l11Take.l0 k a0 a1 0 1 a1
set_option maxHeartbeats 8000000 in
set_option maxRecDepth 100000 in
theorem spec_l11Take.calls (k : Nat) (a0 : ByteArray) (a1 : Int) (r1 : Int) (r2 : Int) (r3 : Bool) (w : World) (h : spec_l11Take.f k a0 a1 = some (r1, r2, r3)) :
    Calls Try.prog 93 #[.string a0, .int .i64 a1] w fun e w' => e = .returned (.tuple #[.int .i64 r1, .int .i64 r2, .bool r3]) ∧ Drawn0 w w' := by
  have H : (spec_l11Take.l0 k a0 a1 0 1 a1) = some (r1, r2, r3) := h
  clear h
  have H' := Aside0.mk H
  clear H
  go_enter Try.func93, Try.ntmps93
  go_wp2
  go_loopg [7, 8, 9] k (fun kq v7 v8 v9 w' => ∃ (x7_1 : Int) (x8_1 : Int) (x9_1 : Int), v7 = .int .i64 x7_1 ∧ v8 = .int .i64 x8_1 ∧ v9 = .int .i64 x9_1 ∧ Aside0 (spec_l11Take.l0 kq a0 a1 x7_1 x8_1 x9_1 = some (r1, r2, r3)) ∧ Aside0 (kq ≤ k) ∧ Drawn0 w w')
  case atStart => exact ⟨(0), (1), (a1), vE, vE, vE, H', ⟨Nat.le_refl _⟩, by repeat (first | exact Drawn0.refl _ | apply Drawn0.step)⟩
  case round =>
    clear H'
    try clear p2
    obtain ⟨x7_1, x8_1, x9_1, rfl, rfl, rfl, HA, HK1, ⟨m1, rfl⟩⟩ := hrel
    cases gk with
    | zero => exact absurd HA.out (by simp [spec_l11Take.l0])
    | succ k1 =>
      have H := HA.out
      clear HA
      simp only [spec_l11Take.l0] at H
      have HC3 := Aside0.mk H
      clear H
      go_upto_region 4 with (fail)
      go_cut [21] (fun v21 wc => ∃ (kq : Nat) (x21_2 : Bool), v21 = .bool x21_2 ∧ Aside0 (spec_l11Take.j1 kq a0 a1 x7_1 x8_1 x9_1 x21_2 = some (r1, r2, r3)) ∧ Aside0 (kq ≤ k1) ∧ Drawn0 w wc)
      case first =>
        have H := HC3.out
        clear HC3
        by_cases c4 : x9_1 < (a0.size : Int)
        · rw [if_pos c4] at H
          have c4b0 : decide (x9_1 < (a0.size : Int)) = true := decide_eq_true c4
          clear c4
          (first | rw [c4b0] | (simp only [i64_w, i32_w]; rw [c4b0]) | skip)
          have H' := Aside0.mk H
          clear H
          go_wp2
          go_meet
          case rel => exact ⟨_, (decide (x9_1 < (wrap64 (a1 + 4)))), vE, H', ⟨by have := HK1.out; first | omega | exact Nat.le_refl _⟩, by repeat (first | exact Drawn0.refl _ | apply Drawn0.step)⟩
        · rw [if_neg c4] at H
          have c4b0 : decide (x9_1 < (a0.size : Int)) = false := decide_eq_false c4
          clear c4
          (first | rw [c4b0] | (simp only [i64_w, i32_w]; rw [c4b0]) | skip)
          have H' := Aside0.mk H
          clear H
          go_wp2
          go_meet
          case rel => exact ⟨_, (false), vE, H', ⟨by have := HK1.out; first | omega | exact Nat.le_refl _⟩, by repeat (first | exact Drawn0.refl _ | apply Drawn0.step)⟩
      case rest =>
        clear HC3
        try clear p2
        try clear c4
        try clear c4b0
        try clear p2
        obtain ⟨kq, x21_2, rfl, HA, HJ2, ⟨mc2, rfl⟩⟩ := hcut
        cases kq with
        | zero => exact absurd HA.out (by simp [spec_l11Take.j1])
        | succ kj2 =>
          have H := HA.out
          clear HA
          simp only [spec_l11Take.j1] at H
          by_cases c5 : x21_2 = true
          · subst c5
            have H1 : (if 0 ≤ x9_1 then (if x9_1 < (a0.size : Int) then (if (wrap64 (bt a0 x9_1)) < 128 then (if (wrap64 (x7_1 + (wrap64 ((Int.tmod (wrap64 (bt a0 x9_1)) 128) * x8_1)))) ≤ 4000000 then (if (wrap64 (bt a0 x9_1)) > 0 then (some (wrap64 (x7_1 + (wrap64 ((Int.tmod (wrap64 (bt a0 x9_1)) 128) * x8_1))), wrap64 (x9_1 + 1), true)) else (some (wrap64 (x7_1 + (wrap64 ((Int.tmod (wrap64 (bt a0 x9_1)) 128) * x8_1))), wrap64 (x9_1 + 1), (x9_1 == a1)))) else (some (wrap64 (x7_1 + (wrap64 ((Int.tmod (wrap64 (bt a0 x9_1)) 128) * x8_1))), wrap64 (x9_1 + 1), false))) else (spec_l11Take.l0 kj2 a0 a1 (wrap64 (x7_1 + (wrap64 ((Int.tmod (wrap64 (bt a0 x9_1)) 128) * x8_1)))) (wrap64 (x8_1 * 128)) (wrap64 (x9_1 + 1)))) else (none)) else (none)) = some (r1, r2, r3) := by rw [if_pos rfl] at H; exact H
            clear H
            have H := H1
            clear H1
            by_cases c6 : 0 ≤ x9_1
            · rw [if_pos c6] at H
              have c6b0 : decide (0 ≤ x9_1) = true := decide_eq_true c6
              clear c6
              by_cases c7 : x9_1 < (a0.size : Int)
              · rw [if_pos c7] at H
                have c7b0 : decide (x9_1 < (a0.size : Int)) = true := decide_eq_true c7
                clear c7
                by_cases c9 : (wrap64 (bt a0 x9_1)) < 128
                · rw [if_pos c9] at H
                  have c9b0 : decide ((wrap64 (bt a0 x9_1)) < 128) = true := decide_eq_true c9
                  clear c9
                  by_cases c10 : (wrap64 (x7_1 + (wrap64 ((Int.tmod (wrap64 (bt a0 x9_1)) 128) * x8_1)))) ≤ 4000000
                  · rw [if_pos c10] at H
                    have c10b0 : decide ((wrap64 (x7_1 + (wrap64 ((Int.tmod (wrap64 (bt a0 x9_1)) 128) * x8_1)))) ≤ 4000000) = true := decide_eq_true c10
                    clear c10
                    by_cases c11 : (wrap64 (bt a0 x9_1)) > 0
                    · rw [if_pos c11] at H
                      have c11b0 : decide (0 < (wrap64 (bt a0 x9_1))) = true := decide_eq_true c11
                      clear c11
                      simp only [Option.some.injEq, Prod.mk.injEq] at H
                      obtain ⟨rfl, rfl, rfl⟩ := H
                      have p8 : 0 ≤ (x9_1 : Int) := odt
                      have q8 : x9_1 < (a0.size : Int) := odt
                      have hx8 := bt_at a0 x9_1
                      replace p8 := eq_true p8
                      replace q8 := eq_true q8
                      go_wp2
                      go_ret3
                      exact ⟨by first | rfl | (simp; done) | (simp [*]; done), by repeat (first | exact Drawn0.refl _ | apply Drawn0.step)⟩
                    · rw [if_neg c11] at H
                      have c11b0 : decide (0 < (wrap64 (bt a0 x9_1))) = false := decide_eq_false c11
                      clear c11
                      simp only [Option.some.injEq, Prod.mk.injEq] at H
                      obtain ⟨rfl, rfl, rfl⟩ := H
                      have p8 : 0 ≤ (x9_1 : Int) := odt
                      have q8 : x9_1 < (a0.size : Int) := odt
                      have hx8 := bt_at a0 x9_1
                      replace p8 := eq_true p8
                      replace q8 := eq_true q8
                      go_wp2
                      go_ret3
                      exact ⟨by first | rfl | (simp; done) | (simp [*]; done), by repeat (first | exact Drawn0.refl _ | apply Drawn0.step)⟩
                  · rw [if_neg c10] at H
                    have c10b0 : decide ((wrap64 (x7_1 + (wrap64 ((Int.tmod (wrap64 (bt a0 x9_1)) 128) * x8_1)))) ≤ 4000000) = false := decide_eq_false c10
                    clear c10
                    simp only [Option.some.injEq, Prod.mk.injEq] at H
                    obtain ⟨rfl, rfl, rfl⟩ := H
                    have p8 : 0 ≤ (x9_1 : Int) := odt
                    have q8 : x9_1 < (a0.size : Int) := odt
                    have hx8 := bt_at a0 x9_1
                    replace p8 := eq_true p8
                    replace q8 := eq_true q8
                    go_wp2
                    go_ret3
                    exact ⟨by first | rfl | (simp; done) | (simp [*]; done), by repeat (first | exact Drawn0.refl _ | apply Drawn0.step)⟩
                · rw [if_neg c9] at H
                  have c9b0 : decide ((wrap64 (bt a0 x9_1)) < 128) = false := decide_eq_false c9
                  clear c9
                  have H' := Aside0.mk H
                  clear H
                  have p8 : 0 ≤ (x9_1 : Int) := odt
                  have q8 : x9_1 < (a0.size : Int) := odt
                  have hx8 := bt_at a0 x9_1
                  replace p8 := eq_true p8
                  replace q8 := eq_true q8
                  go_wp2
                  go_roundg kj2
                  case measure => have := HK1.out; have := HJ2.out; omega
                  case rel => exact ⟨(wrap64 (x7_1 + (wrap64 ((Int.tmod (wrap64 (bt a0 x9_1)) 128) * x8_1)))), (wrap64 (x8_1 * 128)), (wrap64 (x9_1 + 1)), vE, vE, vE, H', ⟨by have := HK1.out; have := HJ2.out; omega⟩, by repeat (first | exact Drawn0.refl _ | apply Drawn0.step)⟩
              · rw [if_neg c7] at H
                exact absurd H (by simp)
            · rw [if_neg c6] at H
              exact absurd H (by simp)
          · replace c5 := Bool.eq_false_iff.mpr c5
            subst c5
            have H1 : (some (0, 0, false)) = some (r1, r2, r3) := by rw [if_neg (show ¬ (false = true) by decide)] at H; exact H
            clear H
            have H := H1
            clear H1
            simp only [Option.some.injEq, Prod.mk.injEq] at H
            obtain ⟨rfl, rfl, rfl⟩ := H
            go_wp2
            go_ret3
            exact ⟨by first | rfl | (simp; done) | (simp [*]; done), by repeat (first | exact Drawn0.refl _ | apply Drawn0.step)⟩
end Go.Proofs.Ytjkjnfooaglnkaa.Q
end

section
namespace Go.Proofs.Ytjkjnfooaglnkaa.Q
open Go.RowKit Go.Proofs.YtjkjnfooaglnkaaW.PrintWords Go.Proofs.YtjkjnfooaglnkaaW.PrintLast Go.Proofs.YtjkjnfooaglnkaaW.PrintMore
attribute [local go_sem] max2_int min2_int max_two min_two max_three min_three max_four min_four   -- for this text's walks alone
set_option linter.unusedVariables false
set_option linter.unusedSimpArgs false
attribute [local go_sem] bin_leq bin_gtr bin_geq
def IsS60 (w0 W : World) (g : Nat) (f0 : ByteArray) (f1 : Int) (f2 : Bool) : Prop := W.heap[g]? = some (.cells #[.string f0, .int .i64 f1, .bool f2] 60 (0, 0)) ∧ w0.heap.size ≤ g
theorem IsS60.grown {w0 W : World} {g : Nat} {f0 : ByteArray} {f1 : Int} {f2 : Bool} {W1 : World} {row : Option Nat} (h : IsS60 w0 W g f0 f1 f2) (hw : W.grownBy W1 row) (hne : some g ≠ row) : IsS60 w0 W1 g f0 f1 f2 := by
  obtain ⟨hb, hg⟩ := h
  exact ⟨blk_grown hb hw hne, hg⟩
theorem IsS60.own_neN {w0 W : World} {g : Nat} {f0 : ByteArray} {f1 : Int} {f2 : Bool} {α : Type} {d : Kd α} {e : Nat} {base : Nat} {ok : Nat → Prop} {v : Value} {xs : List α} (h : IsS60 w0 W g f0 f1 f2) (ho : Kd.N d e W base ok v xs) (ht : e ≠ 60) : some g ≠ v.ownBlock := by
  obtain ⟨hb, hg⟩ := h
  exact Kd.N_ne ho hb ht
theorem IsS60.fresh {w0 W : World} {g : Nat} {f0 : ByteArray} {f1 : Int} {f2 : Bool} (h : IsS60 w0 W g f0 f1 f2) : ∀ k, W.heap.size ≤ k → k ≠ g := by
  obtain ⟨hb, hg⟩ := h
  exact Kd.freshB hb
theorem IsS60.kept {w0 W : World} {g : Nat} {f0 : ByteArray} {f1 : Int} {f2 : Bool} {W1 : World} {S : Nat → Prop} (h : IsS60 w0 W g f0 f1 f2) (hk : Kept W W1 S) (hne : ¬ S g) : IsS60 w0 W1 g f0 f1 f2 := by
  obtain ⟨hb, hg⟩ := h
  exact ⟨blk_kept hb hk hne, hg⟩
theorem IsS60.below {w0 W : World} {g : Nat} {f0 : ByteArray} {f1 : Int} {f2 : Bool} {W1 : World} (h : IsS60 w0 W g f0 f1 f2) (hw : Below W.heap.size W W1) : IsS60 w0 W1 g f0 f1 f2 := h.grown (grown_of_below hw none) (by simp)
theorem IsS60.alloc {w0 W : World} {g : Nat} {f0 : ByteArray} {f1 : Int} {f2 : Bool} (h : IsS60 w0 W g f0 f1 f2) (o : Obj) : IsS60 w0 (W.alloc o) g f0 f1 f2 := h.below (below_alloc (Below.refl _ _) o)
theorem IsS60.drewN {w0 W : World} {g : Nat} {f0 : ByteArray} {f1 : Int} {f2 : Bool} (h : IsS60 w0 W g f0 f1 f2) (m : Nat) : IsS60 w0 (W.drewN m) g f0 f1 f2 := h
theorem IsS60.drew {w0 W : World} {g : Nat} {f0 : ByteArray} {f1 : Int} {f2 : Bool} (h : IsS60 w0 W g f0 f1 f2) : IsS60 w0 W.drew g f0 f1 f2 := h
theorem IsS60.at_ {w0 W : World} {g : Nat} {f0 : ByteArray} {f1 : Int} {f2 : Bool} {w' : World} {m : Nat} (hq : W.drewN m = w') (h : IsS60 w0 W g f0 f1 f2) : IsS60 w0 w' g f0 f1 f2 := by subst hq; exact IsS60.drewN h m
theorem IsS60.apart {w0 W : World} {g : Nat} {f0 : ByteArray} {f1 : Int} {f2 : Bool} {α : Type} {d : Kd α} {e : Nat} {base : Nat} {ok : Nat → Prop} {v : Value} {xs : List α} (h : IsS60 w0 W g f0 f1 f2) (ho : d.R e W base ok v xs) (ht : ∀ q, q ∈ e :: d.E → q ≠ 60) : d.R e W base (fun k => ok k ∧ k ≠ g) v xs := by
  obtain ⟨hb, hg⟩ := h
  exact Kd.R_types ho hb ht
theorem IsS60.own_ne {w0 W : World} {g : Nat} {f0 : ByteArray} {f1 : Int} {f2 : Bool} {α : Type} {d : Kd α} {e : Nat} {base : Nat} {ok : Nat → Prop} {v : Value} {xs : List α} (h : IsS60 w0 W g f0 f1 f2) (ho : d.R e W base ok v xs) (ht : e ≠ 60) : some g ≠ v.ownBlock := by
  obtain ⟨hb, hg⟩ := h
  exact Kd.R_ne ho hb ht
theorem IsS60.apartQ {w0 W : World} {g : Nat} {f0 : ByteArray} {f1 : Int} {f2 : Bool} {α : Type} {d : Kd α} {e : Nat} {base : Nat} {ok : Nat → Prop} {v : Value} {xs : List α} (h : IsS60 w0 W g f0 f1 f2) (ho : d.Q e W base ok v xs) (ht : ∀ q, q ∈ e :: d.E → q ≠ 60) : d.Q e W base (fun k => ok k ∧ k ≠ g) v xs := by
  obtain ⟨hb, hg⟩ := h
  exact Kd.Q_types ho hb ht
theorem IsS60.own_neQ {w0 W : World} {g : Nat} {f0 : ByteArray} {f1 : Int} {f2 : Bool} {α : Type} {d : Kd α} {e : Nat} {base : Nat} {ok : Nat → Prop} {v : Value} {xs : List α} (h : IsS60 w0 W g f0 f1 f2) (ho : d.Q e W base ok v xs) (ht : e ≠ 60) : some g ≠ v.ownBlock := by
  obtain ⟨hb, hg⟩ := h
  exact Kd.Q_ne ho hb ht
theorem IsS60.apartS {w0 W : World} {g : Nat} {f0 : ByteArray} {f1 : Int} {f2 : Bool} {α : Type} {d : Kd α} {e : Nat} {base : Nat} {ok : Nat → Prop} {v : Value} {xs : List α} (h : IsS60 w0 W g f0 f1 f2) (ho : d.S e W base ok v xs) (ht : ∀ q, q ∈ e :: d.E → q ≠ 60) : d.S e W base (fun k => ok k ∧ k ≠ g) v xs := by
  obtain ⟨hb, hg⟩ := h
  exact Kd.S_types ho hb ht
theorem IsS60.own_neS {w0 W : World} {g : Nat} {f0 : ByteArray} {f1 : Int} {f2 : Bool} {α : Type} {d : Kd α} {e : Nat} {base : Nat} {ok : Nat → Prop} {v : Value} {xs : List α} (h : IsS60 w0 W g f0 f1 f2) (ho : d.S e W base ok v xs) (ht : e ≠ 60) : some g ≠ v.ownBlock := by
  obtain ⟨hb, hg⟩ := h
  exact Kd.S_ne ho hb ht
theorem IsS60.lt {w0 W : World} {g : Nat} {f0 : ByteArray} {f1 : Int} {f2 : Bool} (h : IsS60 w0 W g f0 f1 f2) : g < W.heap.size := by
  obtain ⟨hb, hg⟩ := h
  exact blk_lt hb
theorem IsS60.ge {w0 W : World} {g : Nat} {f0 : ByteArray} {f1 : Int} {f2 : Bool} (h : IsS60 w0 W g f0 f1 f2) : w0.heap.size ≤ g := by
  obtain ⟨hb, hg⟩ := h
  exact hg
theorem IsS60.ne_blk {w0 W : World} {g : Nat} {f0 : ByteArray} {f1 : Int} {f2 : Bool} {a : Nat} {cs : Array Value} {t : TypeId} {fr : Nat × Nat} (h : IsS60 w0 W g f0 f1 f2) (hb2 : W.heap[a]? = some (.cells cs t fr)) (ht : t ≠ 60) : g ≠ a := by
  obtain ⟨hb, hg⟩ := h
  rintro rfl
  rw [hb] at hb2
  injection hb2 with hb2
  injection hb2 with _ ht2
  exact ht ht2.symm
theorem IsS60.far {w0 W : World} {g : Nat} {f0 : ByteArray} {f1 : Int} {f2 : Bool} {p : Addr} (h : IsS60 w0 W g f0 f1 f2) (hne : g ≠ p.block) (u : Value) : IsS60 w0 (W.setCell p u) g f0 f1 f2 := by
  obtain ⟨hb, hg⟩ := h
  exact ⟨blk_far hb hne u, hg⟩
theorem cellS60_0 {W : World} {g : Nat} {f0 : ByteArray} {f1 : Int} {f2 : Bool} (h : W.heap[g]? = some (.cells #[.string f0, .int .i64 f1, .bool f2] 60 (0, 0))) : W.cell? ⟨g, 0, none⟩ = some (.string f0) := (blk_cell h 0).trans rfl
theorem IsS60.set_0 {w0 W : World} {g : Nat} {f0 : ByteArray} {f1 : Int} {f2 : Bool} (h : IsS60 w0 W g f0 f1 f2) (x : ByteArray) : IsS60 w0 (W.setCell ⟨g, 0, none⟩ (.string x)) g x f1 f2 := by
  obtain ⟨hb, hg⟩ := h
  exact ⟨by simpa using blk_set hb 0 (.string x), hg⟩
theorem cellS60_1 {W : World} {g : Nat} {f0 : ByteArray} {f1 : Int} {f2 : Bool} (h : W.heap[g]? = some (.cells #[.string f0, .int .i64 f1, .bool f2] 60 (0, 0))) : W.cell? ⟨g, 1, none⟩ = some (.int .i64 f1) := (blk_cell h 1).trans rfl
theorem IsS60.set_1 {w0 W : World} {g : Nat} {f0 : ByteArray} {f1 : Int} {f2 : Bool} (h : IsS60 w0 W g f0 f1 f2) (x : Int) : IsS60 w0 (W.setCell ⟨g, 1, none⟩ (.int .i64 x)) g f0 x f2 := by
  obtain ⟨hb, hg⟩ := h
  exact ⟨by simpa using blk_set hb 1 (.int .i64 x), hg⟩
theorem cellS60_2 {W : World} {g : Nat} {f0 : ByteArray} {f1 : Int} {f2 : Bool} (h : W.heap[g]? = some (.cells #[.string f0, .int .i64 f1, .bool f2] 60 (0, 0))) : W.cell? ⟨g, 2, none⟩ = some (.bool f2) := (blk_cell h 2).trans rfl
theorem IsS60.set_2 {w0 W : World} {g : Nat} {f0 : ByteArray} {f1 : Int} {f2 : Bool} (h : IsS60 w0 W g f0 f1 f2) (x : Bool) : IsS60 w0 (W.setCell ⟨g, 2, none⟩ (.bool x)) g f0 f1 x := by
  obtain ⟨hb, hg⟩ := h
  exact ⟨by simpa using blk_set hb 2 (.bool x), hg⟩
theorem IsS60.new (w0 W : World) (f0 : ByteArray) (f1 : Int) (f2 : Bool) (hB : Below w0.heap.size w0 W) : IsS60 w0 (W.alloc (.cells #[.string f0, .int .i64 f1, .bool f2] 60)) W.heap.size f0 f1 f2 := ⟨by simpa using heap_alloc_new W _, hB.size⟩
def spec_l11Reader_number.f (k : Nat) (s0_0 : ByteArray) (s0_1 : Int) (s0_2 : Bool) : Option (Int × ByteArray × Int × Bool) := (spec_l11Take.f k s0_0 s0_1).bind fun bt101 => (if s0_2 = true then (some (0, s0_0, s0_1, true)) else (if bt101.2.2 = true then (some (bt101.1, s0_0, bt101.2.1, s0_2)) else (some (0, s0_0, s0_1, true))))
set_option maxHeartbeats 8000000 in
set_option maxRecDepth 100000 in
theorem spec_l11Reader_number.calls (k : Nat) (g : Nat) (s0_0 : ByteArray) (s0_1 : Int) (s0_2 : Bool) (r1 : Int) (r2 : ByteArray) (r3 : Int) (r4 : Bool) (w0 w : World) (hI : IsS60 w0 w g s0_0 s0_1 s0_2) (hB : Below w0.heap.size w0 w) (h : spec_l11Reader_number.f k s0_0 s0_1 s0_2 = some (r1, r2, r3, r4)) :
    Calls Try.prog 65 #[.pointer (some ⟨g, 0, none⟩)] w fun e w' => e = .returned (.int .i64 r1) ∧ IsS60 w0 w' g r2 r3 r4 ∧ Below w0.heap.size w0 w' ∧ KeepBut w w' g none := by
  have HI0 := Aside0.mk hI
  have HK := Aside0.mk (KeepBut.refl w g none)
  have HL := Aside0.mk hB.size
  clear hI
  have HW0 := Aside0.mk hB.size
  have HB := Aside0.mk hB
  clear hB
  have H : ((spec_l11Take.f k s0_0 s0_1).bind fun bt101 => (if s0_2 = true then (some (0, s0_0, s0_1, true)) else (if bt101.2.2 = true then (some (bt101.1, s0_0, bt101.2.1, s0_2)) else (some (0, s0_0, s0_1, true))))) = some (r1, r2, r3, r4) := h
  clear h
  replace H := Option.bind_eq_some_iff.mp H
  obtain ⟨⟨t101, t102, t103⟩, A20, H⟩ := H
  replace H : (if s0_2 = true then (some (0, s0_0, s0_1, true)) else (if t103 = true then (some (t101, s0_0, t102, s0_2)) else (some (0, s0_0, s0_1, true)))) = some (r1, r2, r3, r4) := H
  have A2 := Aside0.mk A20
  clear A20
  by_cases c3 : s0_2 = true
  · subst c3
    have H1 : (some (0, s0_0, s0_1, true)) = some (r1, r2, r3, r4) := by rw [if_pos rfl] at H; exact H
    clear H
    have H := H1
    clear H1
    simp only [Option.some.injEq, Prod.mk.injEq] at H
    obtain ⟨rfl, rfl, rfl, rfl⟩ := H
    obtain ⟨HGz4, hgz4⟩ := HI0.out
    have hcz4_0 := cellS60_0 HGz4
    have hcz4_1 := cellS60_1 HGz4
    have hcz4_2 := cellS60_2 HGz4
    have hfz4_0 := blk_frozen HGz4 0
    have hfz4_1 := blk_frozen HGz4 1
    have hfz4_2 := blk_frozen HGz4 2
    clear HGz4 hgz4
    go_enter Try.func65, Try.ntmps65
    go_wp2_with (first | (go_at_call 93; (with_reducible refine (spec_l11Take.calls k s0_0 s0_1 t101 t102 t103 _ A2.out).mono ?_); rintro e w' ⟨rfl, ⟨nd, rfl⟩⟩; (try first | exact ⟨rfl, _, World.drewN_drewN _ _ _⟩ | exact ⟨rfl, _, Eq.trans (World.drewN_drewN _ _ _) (congrArg (World.drewN _) (Nat.add_assoc _ _ _))⟩)))
    repeat (go_quiet (first | (go_at_call 93; (with_reducible refine (spec_l11Take.calls k s0_0 s0_1 t101 t102 t103 _ A2.out).mono ?_); rintro e w' ⟨rfl, ⟨nd, rfl⟩⟩; (try first | exact ⟨rfl, _, World.drewN_drewN _ _ _⟩ | exact ⟨rfl, _, Eq.trans (World.drewN_drewN _ _ _) (congrArg (World.drewN _) (Nat.add_assoc _ _ _))⟩))); try go_wp2_with (first | (go_at_call 93; (with_reducible refine (spec_l11Take.calls k s0_0 s0_1 t101 t102 t103 _ A2.out).mono ?_); rintro e w' ⟨rfl, ⟨nd, rfl⟩⟩; (try first | exact ⟨rfl, _, World.drewN_drewN _ _ _⟩ | exact ⟨rfl, _, Eq.trans (World.drewN_drewN _ _ _) (congrArg (World.drewN _) (Nat.add_assoc _ _ _))⟩))))
    go_ret
    exact ⟨rE, by repeat (first | (with_reducible first | exact HI0.out | apply IsS60.alloc | apply IsS60.drewN | apply IsS60.drew | apply IsS60.set_0 | apply IsS60.set_1 | apply IsS60.set_2) | exact HI0.out), by repeat (first | (with_reducible first | exact HB.out | apply below_alloc | apply pw_below_drewN | apply below_drew1 | refine below_set ?_ (IsS60.ge HI0.out)) | exact HB.out), by repeat (first | (with_reducible first | exact HK.out | apply KeepBut.set_ | apply keep_drewN | apply keep_drew | apply keep_alloc) | exact HK.out)⟩
  · replace c3 := Bool.eq_false_iff.mpr c3
    subst c3
    have H1 : (if t103 = true then (some (t101, s0_0, t102, false)) else (some (0, s0_0, s0_1, true))) = some (r1, r2, r3, r4) := by rw [if_neg (show ¬ (false = true) by decide)] at H; exact H
    clear H
    have H := H1
    clear H1
    by_cases c5 : t103 = true
    · subst c5
      have H1 : (some (t101, s0_0, t102, false)) = some (r1, r2, r3, r4) := by rw [if_pos rfl] at H; exact H
      clear H
      have H := H1
      clear H1
      simp only [Option.some.injEq, Prod.mk.injEq] at H
      obtain ⟨rfl, rfl, rfl, rfl⟩ := H
      obtain ⟨HGz6, hgz6⟩ := HI0.out
      have hcz6_0 := cellS60_0 HGz6
      have hcz6_1 := cellS60_1 HGz6
      have hcz6_2 := cellS60_2 HGz6
      have hfz6_0 := blk_frozen HGz6 0
      have hfz6_1 := blk_frozen HGz6 1
      have hfz6_2 := blk_frozen HGz6 2
      clear HGz6 hgz6
      go_enter Try.func65, Try.ntmps65
      go_wp2_with (first | (go_at_call 93; (with_reducible refine (spec_l11Take.calls k s0_0 s0_1 t101 t102 true _ A2.out).mono ?_); rintro e w' ⟨rfl, ⟨nd, rfl⟩⟩; (try first | exact ⟨rfl, _, World.drewN_drewN _ _ _⟩ | exact ⟨rfl, _, Eq.trans (World.drewN_drewN _ _ _) (congrArg (World.drewN _) (Nat.add_assoc _ _ _))⟩)))
      repeat (go_quiet (first | (go_at_call 93; (with_reducible refine (spec_l11Take.calls k s0_0 s0_1 t101 t102 true _ A2.out).mono ?_); rintro e w' ⟨rfl, ⟨nd, rfl⟩⟩; (try first | exact ⟨rfl, _, World.drewN_drewN _ _ _⟩ | exact ⟨rfl, _, Eq.trans (World.drewN_drewN _ _ _) (congrArg (World.drewN _) (Nat.add_assoc _ _ _))⟩))); try go_wp2_with (first | (go_at_call 93; (with_reducible refine (spec_l11Take.calls k s0_0 s0_1 t101 t102 true _ A2.out).mono ?_); rintro e w' ⟨rfl, ⟨nd, rfl⟩⟩; (try first | exact ⟨rfl, _, World.drewN_drewN _ _ _⟩ | exact ⟨rfl, _, Eq.trans (World.drewN_drewN _ _ _) (congrArg (World.drewN _) (Nat.add_assoc _ _ _))⟩))))
      go_ret
      exact ⟨rE, by repeat (first | (with_reducible first | exact HI0.out | apply IsS60.alloc | apply IsS60.drewN | apply IsS60.drew | apply IsS60.set_0 | apply IsS60.set_1 | apply IsS60.set_2) | exact HI0.out), by repeat (first | (with_reducible first | exact HB.out | apply below_alloc | apply pw_below_drewN | apply below_drew1 | refine below_set ?_ (IsS60.ge HI0.out)) | exact HB.out), by repeat (first | (with_reducible first | exact HK.out | apply KeepBut.set_ | apply keep_drewN | apply keep_drew | apply keep_alloc) | exact HK.out)⟩
    · replace c5 := Bool.eq_false_iff.mpr c5
      subst c5
      have H1 : (some (0, s0_0, s0_1, true)) = some (r1, r2, r3, r4) := by rw [if_neg (show ¬ (false = true) by decide)] at H; exact H
      clear H
      have H := H1
      clear H1
      simp only [Option.some.injEq, Prod.mk.injEq] at H
      obtain ⟨rfl, rfl, rfl, rfl⟩ := H
      obtain ⟨HGz7, hgz7⟩ := HI0.out
      have hcz7_0 := cellS60_0 HGz7
      have hcz7_1 := cellS60_1 HGz7
      have hcz7_2 := cellS60_2 HGz7
      have hfz7_0 := blk_frozen HGz7 0
      have hfz7_1 := blk_frozen HGz7 1
      have hfz7_2 := blk_frozen HGz7 2
      clear HGz7 hgz7
      go_enter Try.func65, Try.ntmps65
      go_wp2_with (first | (go_at_call 93; (with_reducible refine (spec_l11Take.calls k s0_0 s0_1 t101 t102 false _ A2.out).mono ?_); rintro e w' ⟨rfl, ⟨nd, rfl⟩⟩; (try first | exact ⟨rfl, _, World.drewN_drewN _ _ _⟩ | exact ⟨rfl, _, Eq.trans (World.drewN_drewN _ _ _) (congrArg (World.drewN _) (Nat.add_assoc _ _ _))⟩)))
      repeat (go_quiet (first | (go_at_call 93; (with_reducible refine (spec_l11Take.calls k s0_0 s0_1 t101 t102 false _ A2.out).mono ?_); rintro e w' ⟨rfl, ⟨nd, rfl⟩⟩; (try first | exact ⟨rfl, _, World.drewN_drewN _ _ _⟩ | exact ⟨rfl, _, Eq.trans (World.drewN_drewN _ _ _) (congrArg (World.drewN _) (Nat.add_assoc _ _ _))⟩))); try go_wp2_with (first | (go_at_call 93; (with_reducible refine (spec_l11Take.calls k s0_0 s0_1 t101 t102 false _ A2.out).mono ?_); rintro e w' ⟨rfl, ⟨nd, rfl⟩⟩; (try first | exact ⟨rfl, _, World.drewN_drewN _ _ _⟩ | exact ⟨rfl, _, Eq.trans (World.drewN_drewN _ _ _) (congrArg (World.drewN _) (Nat.add_assoc _ _ _))⟩))))
      go_ret
      exact ⟨rE, by repeat (first | (with_reducible first | exact HI0.out | apply IsS60.alloc | apply IsS60.drewN | apply IsS60.drew | apply IsS60.set_0 | apply IsS60.set_1 | apply IsS60.set_2) | exact HI0.out), by repeat (first | (with_reducible first | exact HB.out | apply below_alloc | apply pw_below_drewN | apply below_drew1 | refine below_set ?_ (IsS60.ge HI0.out)) | exact HB.out), by repeat (first | (with_reducible first | exact HK.out | apply KeepBut.set_ | apply keep_drewN | apply keep_drew | apply keep_alloc) | exact HK.out)⟩
end Go.Proofs.Ytjkjnfooaglnkaa.Q
end

section
namespace Go.Proofs.Ytjkjnfooaglnkaa.Q
open Go.RowKit Go.Proofs.YtjkjnfooaglnkaaW.PrintWords Go.Proofs.YtjkjnfooaglnkaaW.PrintLast Go.Proofs.YtjkjnfooaglnkaaW.PrintMore
attribute [local go_sem] max2_int min2_int max_two min_two max_three min_three max_four min_four   -- for this text's walks alone
set_option linter.unusedVariables false
set_option linter.unusedSimpArgs false
attribute [local go_sem] bin_leq bin_gtr bin_geq
def spec_l11Reader_count.f (k : Nat) (s0_0 : ByteArray) (s0_1 : Int) (s0_2 : Bool) (a1 : Int) : Option (Int × ByteArray × Int × Bool) := (spec_l11Reader_number.f k s0_0 s0_1 s0_2).bind fun bt104 => (if bt104.1 > a1 then (some (0, bt104.2.1, bt104.2.2.1, true)) else (some (bt104.1, bt104.2.1, bt104.2.2.1, bt104.2.2.2)))
set_option maxHeartbeats 8000000 in
set_option maxRecDepth 100000 in
theorem spec_l11Reader_count.calls (k : Nat) (g : Nat) (s0_0 : ByteArray) (s0_1 : Int) (s0_2 : Bool) (a1 : Int) (r1 : Int) (r2 : ByteArray) (r3 : Int) (r4 : Bool) (w0 w : World) (hI : IsS60 w0 w g s0_0 s0_1 s0_2) (hB : Below w0.heap.size w0 w) (h : spec_l11Reader_count.f k s0_0 s0_1 s0_2 a1 = some (r1, r2, r3, r4)) :
    Calls Try.prog 64 #[.pointer (some ⟨g, 0, none⟩), .int .i64 a1] w fun e w' => e = .returned (.int .i64 r1) ∧ IsS60 w0 w' g r2 r3 r4 ∧ Below w0.heap.size w0 w' ∧ KeepBut w w' g none := by
  have HI0 := Aside0.mk hI
  have HK := Aside0.mk (KeepBut.refl w g none)
  have HL := Aside0.mk hB.size
  clear hI
  have HW0 := Aside0.mk hB.size
  have HB := Aside0.mk hB
  clear hB
  have H : ((spec_l11Reader_number.f k s0_0 s0_1 s0_2).bind fun bt104 => (if bt104.1 > a1 then (some (0, bt104.2.1, bt104.2.2.1, true)) else (some (bt104.1, bt104.2.1, bt104.2.2.1, bt104.2.2.2)))) = some (r1, r2, r3, r4) := h
  clear h
  replace H := Option.bind_eq_some_iff.mp H
  obtain ⟨⟨t104, t105, t106, t107⟩, A30, H⟩ := H
  replace H : (if t104 > a1 then (some (0, t105, t106, true)) else (some (t104, t105, t106, t107))) = some (r1, r2, r3, r4) := H
  have A3 := Aside0.mk A30
  clear A30
  by_cases c4 : t104 > a1
  · rw [if_pos c4] at H
    have c4b0 : decide (a1 < t104) = true := decide_eq_true c4
    clear c4
    simp only [Option.some.injEq, Prod.mk.injEq] at H
    obtain ⟨rfl, rfl, rfl, rfl⟩ := H
    go_enter Try.func64, Try.ntmps64
    go_wp2_with (first | ((with_reducible refine gate_callee (f := 65) rfl ?_); refine goesL_ (some 7) rfl rfl Try.func65 (by kernel_rfl) rfl #[.pointer (some ⟨g, 0, none⟩)] rfl gA ?_; (with_reducible refine (spec_l11Reader_number.calls k g s0_0 s0_1 s0_2 t104 t105 t106 t107 w0 _ ?side1 ?side2 A3.out).mono ?_); (case side1 => repeat (first | (with_reducible first | exact HI0.out | apply IsS60.alloc | apply IsS60.drewN | apply IsS60.drew | apply IsS60.set_0 | apply IsS60.set_1 | apply IsS60.set_2) | exact HI0.out)); (case side2 => repeat (first | (with_reducible first | exact HB.out | apply below_alloc | apply pw_below_drewN | apply below_drew1 | refine below_set ?_ (IsS60.ge HI0.out)) | exact HB.out)); rintro e w5 ⟨rfl, hi, hb, hk⟩; refine ⟨_, rfl, ?_⟩; have n0_ := Aside0.mk (KeepBut.trans (by repeat (first | (with_reducible first | exact HK.out | apply KeepBut.set_ | apply keep_drewN | apply keep_drew | apply keep_alloc) | exact HK.out)) hk (.inl rfl)); have n1_ := Aside0.mk (hb); have n2_ := Aside0.mk (hi); clear HK; clear HB; clear HI0; have HK := n0_; have HB := n1_; have HI0 := n2_; clear n0_ n1_ n2_; (try clear hb); (try clear hb2); (try clear hk); (try clear hi); obtain ⟨HGz6, hgz6⟩ := HI0.out; have hcz6_0 := cellS60_0 HGz6; have hcz6_1 := cellS60_1 HGz6; have hcz6_2 := cellS60_2 HGz6; have hfz6_0 := blk_frozen HGz6 0; have hfz6_1 := blk_frozen HGz6 1; have hfz6_2 := blk_frozen HGz6 2; clear HGz6 hgz6))
    go_ret
    exact ⟨rE, by repeat (first | (with_reducible first | exact HI0.out | apply IsS60.alloc | apply IsS60.drewN | apply IsS60.drew | apply IsS60.set_0 | apply IsS60.set_1 | apply IsS60.set_2) | exact HI0.out), by repeat (first | (with_reducible first | exact HB.out | apply below_alloc | apply pw_below_drewN | apply below_drew1 | refine below_set ?_ (IsS60.ge HI0.out)) | exact HB.out), by repeat (first | (with_reducible first | exact HK.out | apply KeepBut.set_ | apply keep_drewN | apply keep_drew | apply keep_alloc) | exact HK.out)⟩
  · rw [if_neg c4] at H
    have c4b0 : decide (a1 < t104) = false := decide_eq_false c4
    clear c4
    simp only [Option.some.injEq, Prod.mk.injEq] at H
    obtain ⟨rfl, rfl, rfl, rfl⟩ := H
    go_enter Try.func64, Try.ntmps64
    go_wp2_with (first | ((with_reducible refine gate_callee (f := 65) rfl ?_); refine goesL_ (some 7) rfl rfl Try.func65 (by kernel_rfl) rfl #[.pointer (some ⟨g, 0, none⟩)] rfl gA ?_; (with_reducible refine (spec_l11Reader_number.calls k g s0_0 s0_1 s0_2 t104 t105 t106 t107 w0 _ ?side1 ?side2 A3.out).mono ?_); (case side1 => repeat (first | (with_reducible first | exact HI0.out | apply IsS60.alloc | apply IsS60.drewN | apply IsS60.drew | apply IsS60.set_0 | apply IsS60.set_1 | apply IsS60.set_2) | exact HI0.out)); (case side2 => repeat (first | (with_reducible first | exact HB.out | apply below_alloc | apply pw_below_drewN | apply below_drew1 | refine below_set ?_ (IsS60.ge HI0.out)) | exact HB.out)); rintro e w7 ⟨rfl, hi, hb, hk⟩; refine ⟨_, rfl, ?_⟩; have n0_ := Aside0.mk (KeepBut.trans (by repeat (first | (with_reducible first | exact HK.out | apply KeepBut.set_ | apply keep_drewN | apply keep_drew | apply keep_alloc) | exact HK.out)) hk (.inl rfl)); have n1_ := Aside0.mk (hb); have n2_ := Aside0.mk (hi); clear HK; clear HB; clear HI0; have HK := n0_; have HB := n1_; have HI0 := n2_; clear n0_ n1_ n2_; (try clear hb); (try clear hb2); (try clear hk); (try clear hi)))
    go_ret
    exact ⟨rE, by repeat (first | (with_reducible first | exact HI0.out | apply IsS60.alloc | apply IsS60.drewN | apply IsS60.drew | apply IsS60.set_0 | apply IsS60.set_1 | apply IsS60.set_2) | exact HI0.out), by repeat (first | (with_reducible first | exact HB.out | apply below_alloc | apply pw_below_drewN | apply below_drew1 | refine below_set ?_ (IsS60.ge HI0.out)) | exact HB.out), by repeat (first | (with_reducible first | exact HK.out | apply KeepBut.set_ | apply keep_drewN | apply keep_drew | apply keep_alloc) | exact HK.out)⟩
end Go.Proofs.Ytjkjnfooaglnkaa.Q
end

section
namespace Go.Proofs.Ytjkjnfooaglnkaa.Q
open Go.RowKit Go.Proofs.YtjkjnfooaglnkaaW.PrintWords Go.Proofs.YtjkjnfooaglnkaaW.PrintLast Go.Proofs.YtjkjnfooaglnkaaW.PrintMore
attribute [local go_sem] max2_int min2_int max_two min_two max_three min_three max_four min_four   -- for this text's walks alone
set_option linter.unusedVariables false
set_option linter.unusedSimpArgs false
attribute [local go_sem] bin_leq bin_gtr bin_geq
def spec_l11Reader_word.f (k : Nat) (s0_0 : ByteArray) (s0_1 : Int) (s0_2 : Bool) : Option (ByteArray × ByteArray × Int × Bool) := (spec_l11Reader_count.f k s0_0 s0_1 s0_2 12).bind fun bt108 => (if bt108.2.2.2 = true then (some ((⟨#[]⟩ : ByteArray), bt108.2.1, bt108.2.2.1, true)) else (if (wrap64 (bt108.2.2.1 + bt108.1)) > (bt108.2.1.size : Int) then (some ((⟨#[]⟩ : ByteArray), bt108.2.1, bt108.2.2.1, true)) else (if 0 ≤ (wrap64 ((wrap64 (bt108.2.2.1 + bt108.1)) - bt108.1)) then (if (wrap64 ((wrap64 (bt108.2.2.1 + bt108.1)) - bt108.1)) ≤ (wrap64 (bt108.2.2.1 + bt108.1)) then (if (wrap64 (bt108.2.2.1 + bt108.1)) ≤ (bt108.2.1.size : Int) then (some (bt108.2.1.extract ((wrap64 ((wrap64 (bt108.2.2.1 + bt108.1)) - bt108.1)) : Int).toNat ((wrap64 (bt108.2.2.1 + bt108.1)) : Int).toNat, bt108.2.1, wrap64 (bt108.2.2.1 + bt108.1), bt108.2.2.2)) else (none)) else (none)) else (none))))
set_option maxHeartbeats 8000000 in
set_option maxRecDepth 100000 in
theorem spec_l11Reader_word.calls (k : Nat) (g : Nat) (s0_0 : ByteArray) (s0_1 : Int) (s0_2 : Bool) (r1 : ByteArray) (r2 : ByteArray) (r3 : Int) (r4 : Bool) (w0 w : World) (hI : IsS60 w0 w g s0_0 s0_1 s0_2) (hB : Below w0.heap.size w0 w) (h : spec_l11Reader_word.f k s0_0 s0_1 s0_2 = some (r1, r2, r3, r4)) :
    Calls Try.prog 66 #[.pointer (some ⟨g, 0, none⟩)] w fun e w' => e = .returned (.string r1) ∧ IsS60 w0 w' g r2 r3 r4 ∧ Below w0.heap.size w0 w' ∧ KeepBut w w' g none := by
  have HI0 := Aside0.mk hI
  have HK := Aside0.mk (KeepBut.refl w g none)
  have HL := Aside0.mk hB.size
  clear hI
  have HW0 := Aside0.mk hB.size
  have HB := Aside0.mk hB
  clear hB
  have H : ((spec_l11Reader_count.f k s0_0 s0_1 s0_2 12).bind fun bt108 => (if bt108.2.2.2 = true then (some ((⟨#[]⟩ : ByteArray), bt108.2.1, bt108.2.2.1, true)) else (if (wrap64 (bt108.2.2.1 + bt108.1)) > (bt108.2.1.size : Int) then (some ((⟨#[]⟩ : ByteArray), bt108.2.1, bt108.2.2.1, true)) else (if 0 ≤ (wrap64 ((wrap64 (bt108.2.2.1 + bt108.1)) - bt108.1)) then (if (wrap64 ((wrap64 (bt108.2.2.1 + bt108.1)) - bt108.1)) ≤ (wrap64 (bt108.2.2.1 + bt108.1)) then (if (wrap64 (bt108.2.2.1 + bt108.1)) ≤ (bt108.2.1.size : Int) then (some (bt108.2.1.extract ((wrap64 ((wrap64 (bt108.2.2.1 + bt108.1)) - bt108.1)) : Int).toNat ((wrap64 (bt108.2.2.1 + bt108.1)) : Int).toNat, bt108.2.1, wrap64 (bt108.2.2.1 + bt108.1), bt108.2.2.2)) else (none)) else (none)) else (none))))) = some (r1, r2, r3, r4) := h
  clear h
  replace H := Option.bind_eq_some_iff.mp H
  obtain ⟨⟨t108, t109, t110, t111⟩, A20, H⟩ := H
  replace H : (if t111 = true then (some ((⟨#[]⟩ : ByteArray), t109, t110, true)) else (if (wrap64 (t110 + t108)) > (t109.size : Int) then (some ((⟨#[]⟩ : ByteArray), t109, t110, true)) else (if 0 ≤ (wrap64 ((wrap64 (t110 + t108)) - t108)) then (if (wrap64 ((wrap64 (t110 + t108)) - t108)) ≤ (wrap64 (t110 + t108)) then (if (wrap64 (t110 + t108)) ≤ (t109.size : Int) then (some (t109.extract ((wrap64 ((wrap64 (t110 + t108)) - t108)) : Int).toNat ((wrap64 (t110 + t108)) : Int).toNat, t109, wrap64 (t110 + t108), t111)) else (none)) else (none)) else (none)))) = some (r1, r2, r3, r4) := H
  have A2 := Aside0.mk A20
  clear A20
  by_cases c3 : t111 = true
  · subst c3
    have H1 : (some ((⟨#[]⟩ : ByteArray), t109, t110, true)) = some (r1, r2, r3, r4) := by rw [if_pos rfl] at H; exact H
    clear H
    have H := H1
    clear H1
    simp only [Option.some.injEq, Prod.mk.injEq] at H
    obtain ⟨rfl, rfl, rfl, rfl⟩ := H
    go_enter Try.func66, Try.ntmps66
    go_wp2_with (first | (go_at_call 64; (with_reducible refine (spec_l11Reader_count.calls k g s0_0 s0_1 s0_2 12 t108 t109 t110 true w0 _ ?side1 ?side2 A2.out).mono ?_); (case side1 => repeat (first | (with_reducible first | exact HI0.out | apply IsS60.alloc | apply IsS60.drewN | apply IsS60.drew | apply IsS60.set_0 | apply IsS60.set_1 | apply IsS60.set_2) | exact HI0.out)); (case side2 => repeat (first | (with_reducible first | exact HB.out | apply below_alloc | apply pw_below_drewN | apply below_drew1 | refine below_set ?_ (IsS60.ge HI0.out)) | exact HB.out)); rintro e w4 ⟨rfl, hi, hb, hk⟩; have n0_ := Aside0.mk (KeepBut.trans (by repeat (first | (with_reducible first | exact HK.out | apply KeepBut.set_ | apply keep_drewN | apply keep_drew | apply keep_alloc) | exact HK.out)) hk (.inl rfl)); have n1_ := Aside0.mk (hb); have n2_ := Aside0.mk (hi); clear HK; clear HB; clear HI0; have HK := n0_; have HB := n1_; have HI0 := n2_; clear n0_ n1_ n2_; (try clear hb); (try clear hb2); (try clear hk); (try clear hi); obtain ⟨HGz5, hgz5⟩ := HI0.out; have hcz5_0 := cellS60_0 HGz5; have hcz5_1 := cellS60_1 HGz5; have hcz5_2 := cellS60_2 HGz5; have hfz5_0 := blk_frozen HGz5 0; have hfz5_1 := blk_frozen HGz5 1; have hfz5_2 := blk_frozen HGz5 2; clear HGz5 hgz5))
    repeat (go_quiet (first | (go_at_call 64; (with_reducible refine (spec_l11Reader_count.calls k g s0_0 s0_1 s0_2 12 t108 t109 t110 true w0 _ ?side1 ?side2 A2.out).mono ?_); (case side1 => repeat (first | (with_reducible first | exact HI0.out | apply IsS60.alloc | apply IsS60.drewN | apply IsS60.drew | apply IsS60.set_0 | apply IsS60.set_1 | apply IsS60.set_2) | exact HI0.out)); (case side2 => repeat (first | (with_reducible first | exact HB.out | apply below_alloc | apply pw_below_drewN | apply below_drew1 | refine below_set ?_ (IsS60.ge HI0.out)) | exact HB.out)); rintro e w4 ⟨rfl, hi, hb, hk⟩; have n0_ := Aside0.mk (KeepBut.trans (by repeat (first | (with_reducible first | exact HK.out | apply KeepBut.set_ | apply keep_drewN | apply keep_drew | apply keep_alloc) | exact HK.out)) hk (.inl rfl)); have n1_ := Aside0.mk (hb); have n2_ := Aside0.mk (hi); clear HK; clear HB; clear HI0; have HK := n0_; have HB := n1_; have HI0 := n2_; clear n0_ n1_ n2_; (try clear hb); (try clear hb2); (try clear hk); (try clear hi); obtain ⟨HGz5, hgz5⟩ := HI0.out; have hcz5_0 := cellS60_0 HGz5; have hcz5_1 := cellS60_1 HGz5; have hcz5_2 := cellS60_2 HGz5; have hfz5_0 := blk_frozen HGz5 0; have hfz5_1 := blk_frozen HGz5 1; have hfz5_2 := blk_frozen HGz5 2; clear HGz5 hgz5)); try go_wp2_with (first | (go_at_call 64; (with_reducible refine (spec_l11Reader_count.calls k g s0_0 s0_1 s0_2 12 t108 t109 t110 true w0 _ ?side1 ?side2 A2.out).mono ?_); (case side1 => repeat (first | (with_reducible first | exact HI0.out | apply IsS60.alloc | apply IsS60.drewN | apply IsS60.drew | apply IsS60.set_0 | apply IsS60.set_1 | apply IsS60.set_2) | exact HI0.out)); (case side2 => repeat (first | (with_reducible first | exact HB.out | apply below_alloc | apply pw_below_drewN | apply below_drew1 | refine below_set ?_ (IsS60.ge HI0.out)) | exact HB.out)); rintro e w4 ⟨rfl, hi, hb, hk⟩; have n0_ := Aside0.mk (KeepBut.trans (by repeat (first | (with_reducible first | exact HK.out | apply KeepBut.set_ | apply keep_drewN | apply keep_drew | apply keep_alloc) | exact HK.out)) hk (.inl rfl)); have n1_ := Aside0.mk (hb); have n2_ := Aside0.mk (hi); clear HK; clear HB; clear HI0; have HK := n0_; have HB := n1_; have HI0 := n2_; clear n0_ n1_ n2_; (try clear hb); (try clear hb2); (try clear hk); (try clear hi); obtain ⟨HGz5, hgz5⟩ := HI0.out; have hcz5_0 := cellS60_0 HGz5; have hcz5_1 := cellS60_1 HGz5; have hcz5_2 := cellS60_2 HGz5; have hfz5_0 := blk_frozen HGz5 0; have hfz5_1 := blk_frozen HGz5 1; have hfz5_2 := blk_frozen HGz5 2; clear HGz5 hgz5)))
    go_ret
    exact ⟨rE, by repeat (first | (with_reducible first | exact HI0.out | apply IsS60.alloc | apply IsS60.drewN | apply IsS60.drew | apply IsS60.set_0 | apply IsS60.set_1 | apply IsS60.set_2) | exact HI0.out), by repeat (first | (with_reducible first | exact HB.out | apply below_alloc | apply pw_below_drewN | apply below_drew1 | refine below_set ?_ (IsS60.ge HI0.out)) | exact HB.out), by repeat (first | (with_reducible first | exact HK.out | apply KeepBut.set_ | apply keep_drewN | apply keep_drew | apply keep_alloc) | exact HK.out)⟩
  · replace c3 := Bool.eq_false_iff.mpr c3
    subst c3
    have H1 : (if (wrap64 (t110 + t108)) > (t109.size : Int) then (some ((⟨#[]⟩ : ByteArray), t109, t110, true)) else (if 0 ≤ (wrap64 ((wrap64 (t110 + t108)) - t108)) then (if (wrap64 ((wrap64 (t110 + t108)) - t108)) ≤ (wrap64 (t110 + t108)) then (if (wrap64 (t110 + t108)) ≤ (t109.size : Int) then (some (t109.extract ((wrap64 ((wrap64 (t110 + t108)) - t108)) : Int).toNat ((wrap64 (t110 + t108)) : Int).toNat, t109, wrap64 (t110 + t108), false)) else (none)) else (none)) else (none))) = some (r1, r2, r3, r4) := by rw [if_neg (show ¬ (false = true) by decide)] at H; exact H
    clear H
    have H := H1
    clear H1
    by_cases c6 : (wrap64 (t110 + t108)) > (t109.size : Int)
    · rw [if_pos c6] at H
      have c6b0 : decide ((t109.size : Int) < (wrap64 (t110 + t108))) = true := decide_eq_true c6
      clear c6
      simp only [Option.some.injEq, Prod.mk.injEq] at H
      obtain ⟨rfl, rfl, rfl, rfl⟩ := H
      go_enter Try.func66, Try.ntmps66
      go_wp2_with (first | (go_at_call 64; (with_reducible refine (spec_l11Reader_count.calls k g s0_0 s0_1 s0_2 12 t108 t109 t110 false w0 _ ?side1 ?side2 A2.out).mono ?_); (case side1 => repeat (first | (with_reducible first | exact HI0.out | apply IsS60.alloc | apply IsS60.drewN | apply IsS60.drew | apply IsS60.set_0 | apply IsS60.set_1 | apply IsS60.set_2) | exact HI0.out)); (case side2 => repeat (first | (with_reducible first | exact HB.out | apply below_alloc | apply pw_below_drewN | apply below_drew1 | refine below_set ?_ (IsS60.ge HI0.out)) | exact HB.out)); rintro e w7 ⟨rfl, hi, hb, hk⟩; have n0_ := Aside0.mk (KeepBut.trans (by repeat (first | (with_reducible first | exact HK.out | apply KeepBut.set_ | apply keep_drewN | apply keep_drew | apply keep_alloc) | exact HK.out)) hk (.inl rfl)); have n1_ := Aside0.mk (hb); have n2_ := Aside0.mk (hi); clear HK; clear HB; clear HI0; have HK := n0_; have HB := n1_; have HI0 := n2_; clear n0_ n1_ n2_; (try clear hb); (try clear hb2); (try clear hk); (try clear hi); obtain ⟨HGz8, hgz8⟩ := HI0.out; have hcz8_0 := cellS60_0 HGz8; have hcz8_1 := cellS60_1 HGz8; have hcz8_2 := cellS60_2 HGz8; have hfz8_0 := blk_frozen HGz8 0; have hfz8_1 := blk_frozen HGz8 1; have hfz8_2 := blk_frozen HGz8 2; clear HGz8 hgz8))
      repeat (go_quiet (first | (go_at_call 64; (with_reducible refine (spec_l11Reader_count.calls k g s0_0 s0_1 s0_2 12 t108 t109 t110 false w0 _ ?side1 ?side2 A2.out).mono ?_); (case side1 => repeat (first | (with_reducible first | exact HI0.out | apply IsS60.alloc | apply IsS60.drewN | apply IsS60.drew | apply IsS60.set_0 | apply IsS60.set_1 | apply IsS60.set_2) | exact HI0.out)); (case side2 => repeat (first | (with_reducible first | exact HB.out | apply below_alloc | apply pw_below_drewN | apply below_drew1 | refine below_set ?_ (IsS60.ge HI0.out)) | exact HB.out)); rintro e w7 ⟨rfl, hi, hb, hk⟩; have n0_ := Aside0.mk (KeepBut.trans (by repeat (first | (with_reducible first | exact HK.out | apply KeepBut.set_ | apply keep_drewN | apply keep_drew | apply keep_alloc) | exact HK.out)) hk (.inl rfl)); have n1_ := Aside0.mk (hb); have n2_ := Aside0.mk (hi); clear HK; clear HB; clear HI0; have HK := n0_; have HB := n1_; have HI0 := n2_; clear n0_ n1_ n2_; (try clear hb); (try clear hb2); (try clear hk); (try clear hi); obtain ⟨HGz8, hgz8⟩ := HI0.out; have hcz8_0 := cellS60_0 HGz8; have hcz8_1 := cellS60_1 HGz8; have hcz8_2 := cellS60_2 HGz8; have hfz8_0 := blk_frozen HGz8 0; have hfz8_1 := blk_frozen HGz8 1; have hfz8_2 := blk_frozen HGz8 2; clear HGz8 hgz8)); try go_wp2_with (first | (go_at_call 64; (with_reducible refine (spec_l11Reader_count.calls k g s0_0 s0_1 s0_2 12 t108 t109 t110 false w0 _ ?side1 ?side2 A2.out).mono ?_); (case side1 => repeat (first | (with_reducible first | exact HI0.out | apply IsS60.alloc | apply IsS60.drewN | apply IsS60.drew | apply IsS60.set_0 | apply IsS60.set_1 | apply IsS60.set_2) | exact HI0.out)); (case side2 => repeat (first | (with_reducible first | exact HB.out | apply below_alloc | apply pw_below_drewN | apply below_drew1 | refine below_set ?_ (IsS60.ge HI0.out)) | exact HB.out)); rintro e w7 ⟨rfl, hi, hb, hk⟩; have n0_ := Aside0.mk (KeepBut.trans (by repeat (first | (with_reducible first | exact HK.out | apply KeepBut.set_ | apply keep_drewN | apply keep_drew | apply keep_alloc) | exact HK.out)) hk (.inl rfl)); have n1_ := Aside0.mk (hb); have n2_ := Aside0.mk (hi); clear HK; clear HB; clear HI0; have HK := n0_; have HB := n1_; have HI0 := n2_; clear n0_ n1_ n2_; (try clear hb); (try clear hb2); (try clear hk); (try clear hi); obtain ⟨HGz8, hgz8⟩ := HI0.out; have hcz8_0 := cellS60_0 HGz8; have hcz8_1 := cellS60_1 HGz8; have hcz8_2 := cellS60_2 HGz8; have hfz8_0 := blk_frozen HGz8 0; have hfz8_1 := blk_frozen HGz8 1; have hfz8_2 := blk_frozen HGz8 2; clear HGz8 hgz8)))
      go_ret
      exact ⟨rE, by repeat (first | (with_reducible first | exact HI0.out | apply IsS60.alloc | apply IsS60.drewN | apply IsS60.drew | apply IsS60.set_0 | apply IsS60.set_1 | apply IsS60.set_2) | exact HI0.out), by repeat (first | (with_reducible first | exact HB.out | apply below_alloc | apply pw_below_drewN | apply below_drew1 | refine below_set ?_ (IsS60.ge HI0.out)) | exact HB.out), by repeat (first | (with_reducible first | exact HK.out | apply KeepBut.set_ | apply keep_drewN | apply keep_drew | apply keep_alloc) | exact HK.out)⟩
    · rw [if_neg c6] at H
      have c6b0 : decide ((t109.size : Int) < (wrap64 (t110 + t108))) = false := decide_eq_false c6
      clear c6
      obtain ⟨ji9, hji9⟩ : ∃ j_ : Int, (wrap64 ((wrap64 (t110 + t108)) - t108)) = j_ := ⟨_, rfl⟩
      replace H : (if 0 ≤ (ji9) then (if (ji9) ≤ (wrap64 (t110 + t108)) then (if (wrap64 (t110 + t108)) ≤ (t109.size : Int) then (some (t109.extract ((ji9) : Int).toNat ((wrap64 (t110 + t108)) : Int).toNat, t109, wrap64 (t110 + t108), false)) else (none)) else (none)) else (none)) = some (r1, r2, r3, r4) := by first | (rw [hji9] at H; exact H) | (simp only [hji9] at H ⊢; exact H)
      (try rw [hji9] at A2)
      have hji9w : (IntKind.i64.wrap ((wrap64 (t110 + t108)) - t108)) = ji9 := (i64_w _).trans hji9
      by_cases c10 : 0 ≤ (ji9)
      · rw [if_pos c10] at H
        have c10b0 := eq_true c10
        have c10b1 : decide (0 ≤ (ji9)) = true := decide_eq_true c10
        clear c10
        by_cases c11 : (ji9) ≤ (wrap64 (t110 + t108))
        · rw [if_pos c11] at H
          have c11b0 := eq_true c11
          have c11b1 : decide ((ji9) ≤ (wrap64 (t110 + t108))) = true := decide_eq_true c11
          by_cases c12 : (wrap64 (t110 + t108)) ≤ (t109.size : Int)
          · rw [if_pos c12] at H
            have c12b0 := eq_true c12
            have c12b1 : decide ((wrap64 (t110 + t108)) ≤ (t109.size : Int)) = true := decide_eq_true c12
            simp only [Option.some.injEq, Prod.mk.injEq] at H
            obtain ⟨rfl, rfl, rfl, rfl⟩ := H
            go_enter Try.func66, Try.ntmps66
            go_wp2_with (first | (go_at_call 64; (with_reducible refine (spec_l11Reader_count.calls k g s0_0 s0_1 s0_2 12 t108 t109 t110 false w0 _ ?side1 ?side2 A2.out).mono ?_); (case side1 => repeat (first | (with_reducible first | exact HI0.out | apply IsS60.alloc | apply IsS60.drewN | apply IsS60.drew | apply IsS60.set_0 | apply IsS60.set_1 | apply IsS60.set_2) | exact HI0.out)); (case side2 => repeat (first | (with_reducible first | exact HB.out | apply below_alloc | apply pw_below_drewN | apply below_drew1 | refine below_set ?_ (IsS60.ge HI0.out)) | exact HB.out)); rintro e w13 ⟨rfl, hi, hb, hk⟩; have n0_ := Aside0.mk (KeepBut.trans (by repeat (first | (with_reducible first | exact HK.out | apply KeepBut.set_ | apply keep_drewN | apply keep_drew | apply keep_alloc) | exact HK.out)) hk (.inl rfl)); have n1_ := Aside0.mk (hb); have n2_ := Aside0.mk (hi); clear HK; clear HB; clear HI0; have HK := n0_; have HB := n1_; have HI0 := n2_; clear n0_ n1_ n2_; (try clear hb); (try clear hb2); (try clear hk); (try clear hi); obtain ⟨HGz14, hgz14⟩ := HI0.out; have hcz14_0 := cellS60_0 HGz14; have hcz14_1 := cellS60_1 HGz14; have hcz14_2 := cellS60_2 HGz14; have hfz14_0 := blk_frozen HGz14 0; have hfz14_1 := blk_frozen HGz14 1; have hfz14_2 := blk_frozen HGz14 2; clear HGz14 hgz14))
            repeat (go_quiet (first | (go_at_call 64; (with_reducible refine (spec_l11Reader_count.calls k g s0_0 s0_1 s0_2 12 t108 t109 t110 false w0 _ ?side1 ?side2 A2.out).mono ?_); (case side1 => repeat (first | (with_reducible first | exact HI0.out | apply IsS60.alloc | apply IsS60.drewN | apply IsS60.drew | apply IsS60.set_0 | apply IsS60.set_1 | apply IsS60.set_2) | exact HI0.out)); (case side2 => repeat (first | (with_reducible first | exact HB.out | apply below_alloc | apply pw_below_drewN | apply below_drew1 | refine below_set ?_ (IsS60.ge HI0.out)) | exact HB.out)); rintro e w13 ⟨rfl, hi, hb, hk⟩; have n0_ := Aside0.mk (KeepBut.trans (by repeat (first | (with_reducible first | exact HK.out | apply KeepBut.set_ | apply keep_drewN | apply keep_drew | apply keep_alloc) | exact HK.out)) hk (.inl rfl)); have n1_ := Aside0.mk (hb); have n2_ := Aside0.mk (hi); clear HK; clear HB; clear HI0; have HK := n0_; have HB := n1_; have HI0 := n2_; clear n0_ n1_ n2_; (try clear hb); (try clear hb2); (try clear hk); (try clear hi); obtain ⟨HGz14, hgz14⟩ := HI0.out; have hcz14_0 := cellS60_0 HGz14; have hcz14_1 := cellS60_1 HGz14; have hcz14_2 := cellS60_2 HGz14; have hfz14_0 := blk_frozen HGz14 0; have hfz14_1 := blk_frozen HGz14 1; have hfz14_2 := blk_frozen HGz14 2; clear HGz14 hgz14)); try go_wp2_with (first | (go_at_call 64; (with_reducible refine (spec_l11Reader_count.calls k g s0_0 s0_1 s0_2 12 t108 t109 t110 false w0 _ ?side1 ?side2 A2.out).mono ?_); (case side1 => repeat (first | (with_reducible first | exact HI0.out | apply IsS60.alloc | apply IsS60.drewN | apply IsS60.drew | apply IsS60.set_0 | apply IsS60.set_1 | apply IsS60.set_2) | exact HI0.out)); (case side2 => repeat (first | (with_reducible first | exact HB.out | apply below_alloc | apply pw_below_drewN | apply below_drew1 | refine below_set ?_ (IsS60.ge HI0.out)) | exact HB.out)); rintro e w13 ⟨rfl, hi, hb, hk⟩; have n0_ := Aside0.mk (KeepBut.trans (by repeat (first | (with_reducible first | exact HK.out | apply KeepBut.set_ | apply keep_drewN | apply keep_drew | apply keep_alloc) | exact HK.out)) hk (.inl rfl)); have n1_ := Aside0.mk (hb); have n2_ := Aside0.mk (hi); clear HK; clear HB; clear HI0; have HK := n0_; have HB := n1_; have HI0 := n2_; clear n0_ n1_ n2_; (try clear hb); (try clear hb2); (try clear hk); (try clear hi); obtain ⟨HGz14, hgz14⟩ := HI0.out; have hcz14_0 := cellS60_0 HGz14; have hcz14_1 := cellS60_1 HGz14; have hcz14_2 := cellS60_2 HGz14; have hfz14_0 := blk_frozen HGz14 0; have hfz14_1 := blk_frozen HGz14 1; have hfz14_2 := blk_frozen HGz14 2; clear HGz14 hgz14)))
            go_ret
            exact ⟨by first | rfl | (simp [errW_none, errW_some] <;> rfl) | (simp only [← hji9]; first | rfl | (simp [errW_none, errW_some] <;> rfl)) | (simp [*, errW_none, errW_some] <;> rfl), by repeat (first | (with_reducible first | exact HI0.out | apply IsS60.alloc | apply IsS60.drewN | apply IsS60.drew | apply IsS60.set_0 | apply IsS60.set_1 | apply IsS60.set_2) | exact HI0.out), by repeat (first | (with_reducible first | exact HB.out | apply below_alloc | apply pw_below_drewN | apply below_drew1 | refine below_set ?_ (IsS60.ge HI0.out)) | exact HB.out), by repeat (first | (with_reducible first | exact HK.out | apply KeepBut.set_ | apply keep_drewN | apply keep_drew | apply keep_alloc) | exact HK.out)⟩
          · rw [if_neg c12] at H
            exact absurd H (by simp)
        · rw [if_neg c11] at H
          exact absurd H (by simp)
      · rw [if_neg c10] at H
        exact absurd H (by simp)
end Go.Proofs.Ytjkjnfooaglnkaa.Q
end

section
namespace Go.Proofs.Ytjkjnfooaglnkaa.Q
open Go.RowKit Go.Proofs.YtjkjnfooaglnkaaW.PrintWords Go.Proofs.YtjkjnfooaglnkaaW.PrintLast Go.Proofs.YtjkjnfooaglnkaaW.PrintMore
attribute [local go_sem] max2_int min2_int max_two min_two max_three min_three max_four min_four   -- for this text's walks alone
set_option linter.unusedVariables false
set_option linter.unusedSimpArgs false
attribute [local go_sem] bin_leq bin_gtr bin_geq
def spec_l11Reader_signed.f (k : Nat) (s0_0 : ByteArray) (s0_1 : Int) (s0_2 : Bool) : Option (Int × ByteArray × Int × Bool) := (spec_l11Reader_number.f k s0_0 s0_1 s0_2).bind fun bt112 => (if (Int.tmod bt112.1 2) = 1 then (some (wrap64 (Int.tdiv (wrap64 (-(wrap64 (bt112.1 + 1)))) 2), bt112.2.1, bt112.2.2.1, bt112.2.2.2)) else (some (wrap64 (Int.tdiv bt112.1 2), bt112.2.1, bt112.2.2.1, bt112.2.2.2)))
set_option maxHeartbeats 8000000 in
set_option maxRecDepth 100000 in
theorem spec_l11Reader_signed.calls (k : Nat) (g : Nat) (s0_0 : ByteArray) (s0_1 : Int) (s0_2 : Bool) (r1 : Int) (r2 : ByteArray) (r3 : Int) (r4 : Bool) (w0 w : World) (hI : IsS60 w0 w g s0_0 s0_1 s0_2) (hB : Below w0.heap.size w0 w) (h : spec_l11Reader_signed.f k s0_0 s0_1 s0_2 = some (r1, r2, r3, r4)) :
    Calls Try.prog 67 #[.pointer (some ⟨g, 0, none⟩)] w fun e w' => e = .returned (.int .i64 r1) ∧ IsS60 w0 w' g r2 r3 r4 ∧ Below w0.heap.size w0 w' ∧ KeepBut w w' g none := by
  have HI0 := Aside0.mk hI
  have HK := Aside0.mk (KeepBut.refl w g none)
  have HL := Aside0.mk hB.size
  clear hI
  have HW0 := Aside0.mk hB.size
  have HB := Aside0.mk hB
  clear hB
  have H : ((spec_l11Reader_number.f k s0_0 s0_1 s0_2).bind fun bt112 => (if (Int.tmod bt112.1 2) = 1 then (some (wrap64 (Int.tdiv (wrap64 (-(wrap64 (bt112.1 + 1)))) 2), bt112.2.1, bt112.2.2.1, bt112.2.2.2)) else (some (wrap64 (Int.tdiv bt112.1 2), bt112.2.1, bt112.2.2.1, bt112.2.2.2)))) = some (r1, r2, r3, r4) := h
  clear h
  replace H := Option.bind_eq_some_iff.mp H
  obtain ⟨⟨t112, t113, t114, t115⟩, A20, H⟩ := H
  replace H : (if (Int.tmod t112 2) = 1 then (some (wrap64 (Int.tdiv (wrap64 (-(wrap64 (t112 + 1)))) 2), t113, t114, t115)) else (some (wrap64 (Int.tdiv t112 2), t113, t114, t115))) = some (r1, r2, r3, r4) := H
  have A2 := Aside0.mk A20
  clear A20
  by_cases c3 : (Int.tmod t112 2) = 1
  · rw [if_pos c3] at H
    have c3b0 : ((Int.tmod t112 2) == 1) = true := beq_iff_eq.mpr c3
    have c3b1 : ((Int.tmod t112 2) != 1) = false := bne_eq_false_iff_eq.mpr c3
    clear c3
    simp only [Option.some.injEq, Prod.mk.injEq] at H
    obtain ⟨rfl, rfl, rfl, rfl⟩ := H
    go_enter Try.func67, Try.ntmps67
    go_wp2_with (first | ((with_reducible refine gate_callee (f := 65) rfl ?_); refine goesL_ (some 5) rfl rfl Try.func65 (by kernel_rfl) rfl #[.pointer (some ⟨g, 0, none⟩)] rfl gA ?_; (with_reducible refine (spec_l11Reader_number.calls k g s0_0 s0_1 s0_2 t112 t113 t114 t115 w0 _ ?side1 ?side2 A2.out).mono ?_); (case side1 => repeat (first | (with_reducible first | exact HI0.out | apply IsS60.alloc | apply IsS60.drewN | apply IsS60.drew | apply IsS60.set_0 | apply IsS60.set_1 | apply IsS60.set_2) | exact HI0.out)); (case side2 => repeat (first | (with_reducible first | exact HB.out | apply below_alloc | apply pw_below_drewN | apply below_drew1 | refine below_set ?_ (IsS60.ge HI0.out)) | exact HB.out)); rintro e w4 ⟨rfl, hi, hb, hk⟩; refine ⟨_, rfl, ?_⟩; have n0_ := Aside0.mk (KeepBut.trans (by repeat (first | (with_reducible first | exact HK.out | apply KeepBut.set_ | apply keep_drewN | apply keep_drew | apply keep_alloc) | exact HK.out)) hk (.inl rfl)); have n1_ := Aside0.mk (hb); have n2_ := Aside0.mk (hi); clear HK; clear HB; clear HI0; have HK := n0_; have HB := n1_; have HI0 := n2_; clear n0_ n1_ n2_; (try clear hb); (try clear hb2); (try clear hk); (try clear hi)))
    go_ret
    exact ⟨rE, by repeat (first | (with_reducible first | exact HI0.out | apply IsS60.alloc | apply IsS60.drewN | apply IsS60.drew | apply IsS60.set_0 | apply IsS60.set_1 | apply IsS60.set_2) | exact HI0.out), by repeat (first | (with_reducible first | exact HB.out | apply below_alloc | apply pw_below_drewN | apply below_drew1 | refine below_set ?_ (IsS60.ge HI0.out)) | exact HB.out), by repeat (first | (with_reducible first | exact HK.out | apply KeepBut.set_ | apply keep_drewN | apply keep_drew | apply keep_alloc) | exact HK.out)⟩
  · rw [if_neg c3] at H
    have c3b0 : ((Int.tmod t112 2) == 1) = false := beq_eq_false_iff_ne.mpr c3
    have c3b1 : ((Int.tmod t112 2) != 1) = true := bne_iff_ne.mpr c3
    simp only [Option.some.injEq, Prod.mk.injEq] at H
    obtain ⟨rfl, rfl, rfl, rfl⟩ := H
    go_enter Try.func67, Try.ntmps67
    go_wp2_with (first | ((with_reducible refine gate_callee (f := 65) rfl ?_); refine goesL_ (some 5) rfl rfl Try.func65 (by kernel_rfl) rfl #[.pointer (some ⟨g, 0, none⟩)] rfl gA ?_; (with_reducible refine (spec_l11Reader_number.calls k g s0_0 s0_1 s0_2 t112 t113 t114 t115 w0 _ ?side1 ?side2 A2.out).mono ?_); (case side1 => repeat (first | (with_reducible first | exact HI0.out | apply IsS60.alloc | apply IsS60.drewN | apply IsS60.drew | apply IsS60.set_0 | apply IsS60.set_1 | apply IsS60.set_2) | exact HI0.out)); (case side2 => repeat (first | (with_reducible first | exact HB.out | apply below_alloc | apply pw_below_drewN | apply below_drew1 | refine below_set ?_ (IsS60.ge HI0.out)) | exact HB.out)); rintro e w5 ⟨rfl, hi, hb, hk⟩; refine ⟨_, rfl, ?_⟩; have n0_ := Aside0.mk (KeepBut.trans (by repeat (first | (with_reducible first | exact HK.out | apply KeepBut.set_ | apply keep_drewN | apply keep_drew | apply keep_alloc) | exact HK.out)) hk (.inl rfl)); have n1_ := Aside0.mk (hb); have n2_ := Aside0.mk (hi); clear HK; clear HB; clear HI0; have HK := n0_; have HB := n1_; have HI0 := n2_; clear n0_ n1_ n2_; (try clear hb); (try clear hb2); (try clear hk); (try clear hi)))
    go_ret
    exact ⟨rE, by repeat (first | (with_reducible first | exact HI0.out | apply IsS60.alloc | apply IsS60.drewN | apply IsS60.drew | apply IsS60.set_0 | apply IsS60.set_1 | apply IsS60.set_2) | exact HI0.out), by repeat (first | (with_reducible first | exact HB.out | apply below_alloc | apply pw_below_drewN | apply below_drew1 | refine below_set ?_ (IsS60.ge HI0.out)) | exact HB.out), by repeat (first | (with_reducible first | exact HK.out | apply KeepBut.set_ | apply keep_drewN | apply keep_drew | apply keep_alloc) | exact HK.out)⟩
end Go.Proofs.Ytjkjnfooaglnkaa.Q
end

section
namespace Go.Proofs.Ytjkjnfooaglnkaa.Q
open Go.RowKit Go.Proofs.YtjkjnfooaglnkaaW.PrintWords Go.Proofs.YtjkjnfooaglnkaaW.PrintLast Go.Proofs.YtjkjnfooaglnkaaW.PrintMore
attribute [local go_sem] max2_int min2_int max_two min_two max_three min_three max_four min_four   -- for this text's walks alone
set_option linter.unusedVariables false
set_option linter.unusedSimpArgs false
attribute [local go_sem] bin_leq bin_gtr bin_geq
mutual
def spec_l11Reader_commit.l0 : Nat → Int → ByteArray → Int → Bool → List Int → List (S90) → Option (List Int × (List (S90)) × ByteArray × Int × Bool)
  | 0, _, _, _, _, _, _ => none
  | k + 1, x4, x1000, x1001, x1002, x124000, x124001 => if x4 > 0 then ((spec_l11Reader_number.f k x1000 x1001 x1002).bind fun bt128 => (if x124000.length < 17592186044416 then (spec_l11Reader_commit.l0 k (wrap64 (x4 - 1)) bt128.2.1 bt128.2.2.1 bt128.2.2.2 (x124000 ++ [bt128.1]) x124001) else (none))) else ((spec_l11Reader_count.f k x1000 x1001 x1002 12).bind fun bt135 => (spec_l11Reader_commit.l1 k bt135.1 bt135.2.1 bt135.2.2.1 bt135.2.2.2 x124000 x124001))
def spec_l11Reader_commit.l1 : Nat → Int → ByteArray → Int → Bool → List Int → List (S90) → Option (List Int × (List (S90)) × ByteArray × Int × Bool)
  | 0, _, _, _, _, _, _ => none
  | k + 1, x5, x1000, x1001, x1002, x124000, x124001 => if x5 > 0 then ((spec_l11Reader_word.f k x1000 x1001 x1002).bind fun bt139 => ((spec_l11Reader_signed.f k bt139.2.1 bt139.2.2.1 bt139.2.2.2).bind fun bt143 => (if x124001.length < 5864062014805 then (spec_l11Reader_commit.l1 k (wrap64 (x5 - 1)) bt143.2.1 bt143.2.2.1 bt143.2.2.2 x124000 (x124001 ++ [(⟨bt139.1, bt143.1⟩ : S90)])) else (none)))) else (some (x124000, x124001, x1000, x1001, x1002))
end
def spec_l11Reader_commit.f (k : Nat) (s0_0 : ByteArray) (s0_1 : Int) (s0_2 : Bool) : Option (List Int × (List (S90)) × ByteArray × Int × Bool) := (spec_l11Reader_count.f k s0_0 s0_1 s0_2 2).bind fun bt124 => (spec_l11Reader_commit.l0 k bt124.1 bt124.2.1 bt124.2.2.1 bt124.2.2.2 (([] : List Int)) (([] : List (S90))))
def spec_l11Reader_commit.T5 : Bool × List (List Nat × List Nat) := (true, [([], []), ([0], [0]), ([], []), ([2], [2]), ([3], [3]), ([1, 4, 3], [1, 4]), ([0, 1, 2, 3, 4, 5], []), ([6, 5, 5, 0, 1, 2, 3, 4, 5], [5, 6])])
def spec_l11Reader_commit.B5 : List Nat := [0, 1, 0, 4, 12, 31, 63, 127]
theorem spec_l11Reader_commit.tab5 : rtab .any (opsOf Try.f29 5) = spec_l11Reader_commit.T5 := by kernel_rfl
theorem spec_l11Reader_commit.bits5 : waitsOk spec_l11Reader_commit.T5.2 spec_l11Reader_commit.B5 = true := by kernel_rfl
def spec_l11Reader_commit.T10 : Bool × List (List Nat × List Nat) := (true, [([], []), ([0], [0]), ([], []), ([], []), ([3], [3]), ([2, 4], [2, 4]), ([5], [5]), ([1, 6, 4], [1, 6]), ([0, 1, 2, 3, 4, 5, 6, 7], []), ([8, 7, 7, 0, 1, 2, 3, 4, 5, 6, 7], [7, 8])])
def spec_l11Reader_commit.B10 : List Nat := [0, 1, 0, 0, 8, 28, 60, 127, 255, 511]
theorem spec_l11Reader_commit.tab10 : rtab .any (opsOf Try.f29 10) = spec_l11Reader_commit.T10 := by kernel_rfl
theorem spec_l11Reader_commit.bits10 : waitsOk spec_l11Reader_commit.T10.2 spec_l11Reader_commit.B10 = true := by kernel_rfl
set_option maxHeartbeats 8000000 in
set_option maxRecDepth 100000 in
theorem spec_l11Reader_commit.calls (k : Nat) (g : Nat) (s0_0 : ByteArray) (s0_1 : Int) (s0_2 : Bool) (r1 : List Int) (r2 : List (S90)) (r3 : ByteArray) (r4 : Int) (r5 : Bool) (w0 w : World) (hI : IsS60 w0 w g s0_0 s0_1 s0_2) (hB : Below w0.heap.size w0 w) (h : spec_l11Reader_commit.f k s0_0 s0_1 s0_2 = some (r1, r2, r3, r4, r5)) :
    Calls Try.prog 29 #[.pointer (some ⟨g, 0, none⟩)] w fun e w' => ∃ v0_ v1_ : Value, e = .returned (.agg #[v0_, v1_]) ∧ Kd.R (Kd.int .i64) 3 w' w.heap.size (fun _ => True) v0_ r1 ∧ Kd.R k90 90 w' w.heap.size (fun _ => True) v1_ r2 ∧ IsS60 w0 w' g r3 r4 r5 ∧ Below w0.heap.size w0 w' ∧ KeepBut w w' g none := by
  have hu25 := Try.underlying25
  have hu90 := Try.underlying90
  have HI0 := Aside0.mk hI
  have HK := Aside0.mk (KeepBut.refl w g none)
  have HL := Aside0.mk hB.size
  clear hI
  have HW0 := Aside0.mk hB.size
  have HB := Aside0.mk hB
  clear hB
  have H : ((spec_l11Reader_count.f k s0_0 s0_1 s0_2 2).bind fun bt124 => (spec_l11Reader_commit.l0 k bt124.1 bt124.2.1 bt124.2.2.1 bt124.2.2.2 (([] : List Int)) (([] : List (S90))))) = some (r1, r2, r3, r4, r5) := h
  clear h
  obtain ⟨y117, hy117⟩ : ∃ y_ : List Int, y_ = (([] : List Int)) := ⟨_, rfl⟩
  replace H : ((spec_l11Reader_count.f k s0_0 s0_1 s0_2 2).bind fun bt124 => (spec_l11Reader_commit.l0 k bt124.1 bt124.2.1 bt124.2.2.1 bt124.2.2.2 y117 (([] : List (S90))))) = some (r1, r2, r3, r4, r5) := by first | (rw [hy117]; with_reducible exact H) | (have H2_ := (Option.bind_some _ _).symm.trans H; rw [hy117]; with_reducible exact H2_) | (have H2_ := (Option.bind_some _ _).symm.trans H; with_reducible exact H2_) | with_reducible exact H | (rw [hy117]; exact H) | exact H
  have Ny117 := Aside0.mk hy117
  clear hy117
  obtain ⟨y120, hy120⟩ : ∃ y_ : List (S90), y_ = (([] : List (S90))) := ⟨_, rfl⟩
  replace H : ((spec_l11Reader_count.f k s0_0 s0_1 s0_2 2).bind fun bt124 => (spec_l11Reader_commit.l0 k bt124.1 bt124.2.1 bt124.2.2.1 bt124.2.2.2 y117 y120)) = some (r1, r2, r3, r4, r5) := by first | (rw [hy120]; with_reducible exact H) | (have H2_ := (Option.bind_some _ _).symm.trans H; rw [hy120]; with_reducible exact H2_) | (have H2_ := (Option.bind_some _ _).symm.trans H; with_reducible exact H2_) | with_reducible exact H | (rw [hy120]; exact H) | exact H
  have Ny120 := Aside0.mk hy120
  clear hy120
  replace H := Option.bind_eq_some_iff.mp H
  obtain ⟨⟨t124, t125, t126, t127⟩, A20, H⟩ := H
  replace H : (spec_l11Reader_commit.l0 k t124 t125 t126 t127 y117 y120) = some (r1, r2, r3, r4, r5) := H
  have A2 := Aside0.mk A20
  clear A20
  have H' := Aside0.mk H
  clear H
  go_enter Try.func29, Try.ntmps29
  go_wp2_with (first | ((with_reducible refine gate_dst (N := 2) rfl ?_); refine bE (N := 2) (cs := #[.slice none 0 0, .slice none 0 0]) (t := 25) ?_; intro gb116 hg w3 hbox hb; have n0_ := Aside0.mk (IsS60.below (by repeat (first | (with_reducible first | exact HI0.out | apply IsS60.alloc | apply IsS60.drewN | apply IsS60.drew | apply IsS60.set_0 | apply IsS60.set_1 | apply IsS60.set_2) | exact HI0.out)) hb); have n1_ := Aside0.mk (KeepBut.trans (by repeat (first | (with_reducible first | exact HK.out | apply KeepBut.set_ | apply keep_drewN | apply keep_drew | apply keep_alloc) | exact HK.out)) (KeepBut.of_below hb g none) (.inl rfl)); have n2_ := Aside0.mk (below_step (by repeat (first | (with_reducible first | exact HB.out | apply below_alloc | apply pw_below_drewN | apply below_drew1 | refine below_set ?_ (IsS60.ge HI0.out)) | exact HB.out)) hb); have n3_ := Aside0.mk (hbox); have n4_ := Aside0.mk ((by rw [hg]; exact (keep_size (w := w) (g := g) (row := none) (by repeat (first | (with_reducible first | exact HK.out | apply KeepBut.set_ | apply keep_drewN | apply keep_drew | apply keep_alloc) | exact HK.out))) : w.heap.size ≤ gb116)); have n5_ := Aside0.mk ((Nat.le_trans HW0.out (by rw [hg]; exact (keep_size (w := w) (g := g) (row := none) (by repeat (first | (with_reducible first | exact HK.out | apply KeepBut.set_ | apply keep_drewN | apply keep_drew | apply keep_alloc) | exact HK.out))) : w.heap.size ≤ gb116) : w0.heap.size ≤ gb116)); have n6_ := Aside0.mk ((by rw [hg]; exact Nat.ne_of_lt (IsS60.lt (show IsS60 w0 _ g s0_0 s0_1 s0_2 from by repeat (first | (with_reducible first | exact HI0.out | apply IsS60.alloc | apply IsS60.drewN | apply IsS60.drew | apply IsS60.set_0 | apply IsS60.set_1 | apply IsS60.set_2) | exact HI0.out))) : g ≠ gb116)); have n7_ := Aside0.mk ((by rw [hg]; exact Nat.ne_of_gt (IsS60.lt (show IsS60 w0 _ g s0_0 s0_1 s0_2 from by repeat (first | (with_reducible first | exact HI0.out | apply IsS60.alloc | apply IsS60.drewN | apply IsS60.drew | apply IsS60.set_0 | apply IsS60.set_1 | apply IsS60.set_2) | exact HI0.out))) : gb116 ≠ g)); clear HI0; clear HK; clear HB; have HI0 := n0_; have HK := n1_; have HB := n2_; have BK116 := n3_; have GW116 := n4_; have GE116 := n5_; have NB0_116 := n6_; have NB116_0 := n7_; clear n0_ n1_ n2_ n3_ n4_ n5_ n6_ n7_; clear hb hbox hg) | ((with_reducible refine gate_dst (N := 7) rfl ?_); refine Kd.R_lit (Kd.int .i64) _ 3 ?hg (N := 7) ?hd (xs := ([] : List Int)) (inner := []) (ok := fun _ => True) (okp := fun _ => True) ?hr ?hp (fun _ hk => hk) trivial (Below.refl _ _) (Nat.le_refl _) (by simp) ?_; (case hd => rfl); (case hg => rfl); (case hr => first | (go_simp; done) | (go_simp; rfl)); (case hp => exact (Reps.none _ _)); intro v118 w4 ho5 hb hg_ hnew_; clear hg_ hnew_; (first | rw [← Ny117.out] at ho5 | (simp only [Int.reduceToNat] at ho5; rw [← Ny117.out] at ho5)); have n0_ := Aside0.mk (Kd.R_lower ho5 (keep_size (w := w) (g := g) (row := none) (by repeat (first | (with_reducible first | exact HK.out | apply KeepBut.set_ | apply keep_drewN | apply keep_drew | apply keep_alloc | refine keep_far ?_ GW116.out _) | exact HK.out)))); have n1_ := Aside0.mk (IsS60.below (by repeat (first | (with_reducible first | exact HI0.out | apply IsS60.alloc | apply IsS60.drewN | apply IsS60.drew | apply IsS60.set_0 | apply IsS60.set_1 | apply IsS60.set_2 | refine IsS60.far ?_ NB0_116.out _) | exact HI0.out)) hb); have n2_ := Aside0.mk (kb BK116 hb); have n3_ := Aside0.mk (KeepBut.trans (by repeat (first | (with_reducible first | exact HK.out | apply KeepBut.set_ | apply keep_drewN | apply keep_drew | apply keep_alloc | refine keep_far ?_ GW116.out _) | exact HK.out)) (KeepBut.of_below hb g none) (.inl rfl)); have n4_ := Aside0.mk (below_step (by repeat (first | (with_reducible first | exact HB.out | apply below_alloc | apply pw_below_drewN | apply below_drew1 | refine below_set ?_ (IsS60.ge HI0.out) | refine below_set ?_ GE116.out) | exact HB.out)) hb); clear HI0; clear BK116; clear HK; clear HB; have HO119 := n0_; have HI0 := n1_; have BK116 := n2_; have HK := n3_; have HB := n4_; clear n0_ n1_ n2_ n3_ n4_; clear hb ho5) | ((with_reducible refine gate_dst (N := 8) rfl ?_); refine Kd.R_lit k90 _ 90 ?hg (N := 8) ?hd (xs := ([] : List (S90))) (inner := []) (ok := fun _ => True) (okp := fun _ => True) ?hr ?hp (fun _ hk => hk) trivial (Below.refl _ _) (Nat.le_refl _) (by simp) ?_; (case hd => rfl); (case hg => rfl); (case hr => first | (go_simp; done) | (go_simp; rfl)); (case hp => exact (Reps.none _ _)); intro v121 w6 ho7 hb hg_ hnew_; clear hg_ hnew_; (first | rw [← Ny120.out] at ho7 | (simp only [Int.reduceToNat] at ho7; rw [← Ny120.out] at ho7)); have n0_ := Aside0.mk (Kd.R_below (pR HO119) hb); have n1_ := Aside0.mk (Kd.R_lower ho7 (keep_size (w := w) (g := g) (row := none) (by repeat (first | (with_reducible first | exact HK.out | apply KeepBut.set_ | apply keep_drewN | apply keep_drew | apply keep_alloc | refine keep_far ?_ GW116.out _) | exact HK.out)))); have n2_ := Aside0.mk (IsS60.below (by repeat (first | (with_reducible first | exact HI0.out | apply IsS60.alloc | apply IsS60.drewN | apply IsS60.drew | apply IsS60.set_0 | apply IsS60.set_1 | apply IsS60.set_2 | refine IsS60.far ?_ NB0_116.out _) | exact HI0.out)) hb); have n3_ := Aside0.mk (kb BK116 hb); have n4_ := Aside0.mk (KeepBut.trans (by repeat (first | (with_reducible first | exact HK.out | apply KeepBut.set_ | apply keep_drewN | apply keep_drew | apply keep_alloc | refine keep_far ?_ GW116.out _) | exact HK.out)) (KeepBut.of_below hb g none) (.inl rfl)); have n5_ := Aside0.mk (below_step (by repeat (first | (with_reducible first | exact HB.out | apply below_alloc | apply pw_below_drewN | apply below_drew1 | refine below_set ?_ (IsS60.ge HI0.out) | refine below_set ?_ GE116.out) | exact HB.out)) hb); clear HO119; clear HI0; clear BK116; clear HK; clear HB; have HO119 := n0_; have HO122 := n1_; have HI0 := n2_; have BK116 := n3_; have HK := n4_; have HB := n5_; clear n0_ n1_ n2_ n3_ n4_ n5_; clear hb ho7; obtain ⟨Ao8, co8, eo8⟩ := Kd.R_slice HO122.out; subst eo8; obtain ⟨Ao9, co9, eo9⟩ := Kd.R_slice HO119.out; subst eo9) | ((with_reducible refine gate_dst (N := 3) rfl ?_); refine bE (N := 3) (cs := #[.slice none 0 0, .slice none 0 0]) (t := 25) ?_; intro gb123 hg w10 hbox hb; have n0_ := Aside0.mk (Kd.R_below (pR HO119) hb); have n1_ := Aside0.mk (Kd.R_below (pR HO122) hb); have n2_ := Aside0.mk (IsS60.below (by repeat (first | (with_reducible first | exact HI0.out | apply IsS60.alloc | apply IsS60.drewN | apply IsS60.drew | apply IsS60.set_0 | apply IsS60.set_1 | apply IsS60.set_2 | refine IsS60.far ?_ NB0_116.out _) | exact HI0.out)) hb); have n3_ := Aside0.mk (kb BK116 hb); have n4_ := Aside0.mk (KeepBut.trans (by repeat (first | (with_reducible first | exact HK.out | apply KeepBut.set_ | apply keep_drewN | apply keep_drew | apply keep_alloc | refine keep_far ?_ GW116.out _) | exact HK.out)) (KeepBut.of_below hb g none) (.inl rfl)); have n5_ := Aside0.mk (below_step (by repeat (first | (with_reducible first | exact HB.out | apply below_alloc | apply pw_below_drewN | apply below_drew1 | refine below_set ?_ (IsS60.ge HI0.out) | refine below_set ?_ GE116.out) | exact HB.out)) hb); have n6_ := Aside0.mk (hbox); have n7_ := Aside0.mk ((by rw [hg]; exact (keep_size (w := w) (g := g) (row := none) (by repeat (first | (with_reducible first | exact HK.out | apply KeepBut.set_ | apply keep_drewN | apply keep_drew | apply keep_alloc | refine keep_far ?_ GW116.out _) | exact HK.out))) : w.heap.size ≤ gb123)); have n8_ := Aside0.mk ((Nat.le_trans HW0.out (by rw [hg]; exact (keep_size (w := w) (g := g) (row := none) (by repeat (first | (with_reducible first | exact HK.out | apply KeepBut.set_ | apply keep_drewN | apply keep_drew | apply keep_alloc | refine keep_far ?_ GW116.out _) | exact HK.out))) : w.heap.size ≤ gb123) : w0.heap.size ≤ gb123)); have n9_ := Aside0.mk (nL BK116 hg); have n10_ := Aside0.mk (nG BK116 hg); have n11_ := Aside0.mk ((by rw [hg]; exact Nat.ne_of_lt (IsS60.lt (show IsS60 w0 _ g s0_0 s0_1 s0_2 from by repeat (first | (with_reducible first | exact HI0.out | apply IsS60.alloc | apply IsS60.drewN | apply IsS60.drew | apply IsS60.set_0 | apply IsS60.set_1 | apply IsS60.set_2 | refine IsS60.far ?_ NB0_116.out _) | exact HI0.out))) : g ≠ gb123)); have n12_ := Aside0.mk ((by rw [hg]; exact Nat.ne_of_gt (IsS60.lt (show IsS60 w0 _ g s0_0 s0_1 s0_2 from by repeat (first | (with_reducible first | exact HI0.out | apply IsS60.alloc | apply IsS60.drewN | apply IsS60.drew | apply IsS60.set_0 | apply IsS60.set_1 | apply IsS60.set_2 | refine IsS60.far ?_ NB0_116.out _) | exact HI0.out))) : gb123 ≠ g)); clear HO119; clear HO122; clear HI0; clear BK116; clear HK; clear HB; have HO119 := n0_; have HO122 := n1_; have HI0 := n2_; have BK116 := n3_; have HK := n4_; have HB := n5_; have BK123 := n6_; have GW123 := n7_; have GE123 := n8_; have NB116_123 := n9_; have NB123_116 := n10_; have NB0_123 := n11_; have NB123_0 := n12_; clear n0_ n1_ n2_ n3_ n4_ n5_ n6_ n7_ n8_ n9_ n10_ n11_ n12_; clear hb hbox hg; have hnb11 := NB123_116.out; have hnc11 := NB116_123.out; have hnb12 := NB123_0.out; have hnc12 := NB0_123.out; obtain ⟨hcz13_0, hcz13_1⟩ := cz2 BK123; obtain ⟨hfz13_0, hfz13_1⟩ := fz2 BK123) | ((with_reducible refine gate_callee (f := 64) rfl ?_); refine goesL_ (some 11) rfl rfl Try.func64 (by kernel_rfl) rfl #[.pointer (some ⟨g, 0, none⟩), .int .i64 2] rfl gA ?_; (with_reducible refine (spec_l11Reader_count.calls k g s0_0 s0_1 s0_2 2 t124 t125 t126 t127 w0 _ ?side1 ?side2 A2.out).mono ?_); (case side1 => repeat (first | (with_reducible first | exact HI0.out | apply IsS60.alloc | apply IsS60.drewN | apply IsS60.drew | apply IsS60.set_0 | apply IsS60.set_1 | apply IsS60.set_2 | refine IsS60.far ?_ NB0_116.out _ | refine IsS60.far ?_ NB0_123.out _) | exact HI0.out)); (case side2 => repeat (first | (with_reducible first | exact HB.out | apply below_alloc | apply pw_below_drewN | apply below_drew1 | refine below_set ?_ (IsS60.ge HI0.out) | refine below_set ?_ GE116.out | refine below_set ?_ GE123.out) | exact HB.out)); rintro e w14 ⟨rfl, hi, hb, hk⟩; refine ⟨_, rfl, ?_⟩; have n0_ := Aside0.mk (KeepBut.blk hk (g' := gb116) (o := .cells #[.slice none 0 0, .slice none 0 0] 25 (0, 0)) (kF BK116) NB116_0.out (by simp)); have n1_ := Aside0.mk (Kd.R_mono (Kd.R_keep (IsS60.apart (show IsS60 w0 _ g s0_0 s0_1 s0_2 from by repeat (first | (with_reducible first | exact HI0.out | apply IsS60.alloc | apply IsS60.drewN | apply IsS60.drew | apply IsS60.set_0 | apply IsS60.set_1 | apply IsS60.set_2 | refine IsS60.far ?_ NB0_116.out _ | refine IsS60.far ?_ NB0_123.out _) | exact HI0.out)) (by (with_reducible repeat (first | apply Kd.R_alloc | apply Kd.R_drewN | apply Kd.R_drew)); exact (Kd.R_mono (Kd.R_far (p := ⟨gb123, 1, none⟩) (Kd.R_far (p := ⟨gb123, 0, none⟩) (Kd.R_types HO119.out BK123.out (by decide)) (fun _ hk => hk.2) (.slice Ao9 y117.length co9)) (fun _ hk => hk.2) (.slice Ao8 y120.length co8)) (fun _ h_ => h_.1))) (by decide)) hk (fun _ h => h.2)) (fun _ h => h.1)); have n2_ := Aside0.mk (Kd.R_mono (Kd.R_keep (IsS60.apart (show IsS60 w0 _ g s0_0 s0_1 s0_2 from by repeat (first | (with_reducible first | exact HI0.out | apply IsS60.alloc | apply IsS60.drewN | apply IsS60.drew | apply IsS60.set_0 | apply IsS60.set_1 | apply IsS60.set_2 | refine IsS60.far ?_ NB0_116.out _ | refine IsS60.far ?_ NB0_123.out _) | exact HI0.out)) (by (with_reducible repeat (first | apply Kd.R_alloc | apply Kd.R_drewN | apply Kd.R_drew)); exact (Kd.R_mono (Kd.R_far (p := ⟨gb123, 1, none⟩) (Kd.R_far (p := ⟨gb123, 0, none⟩) (Kd.R_types HO122.out BK123.out (by decide)) (fun _ hk => hk.2) (.slice Ao9 y117.length co9)) (fun _ hk => hk.2) (.slice Ao8 y120.length co8)) (fun _ h_ => h_.1))) (by decide)) hk (fun _ h => h.2)) (fun _ h => h.1)); have n3_ := Aside0.mk (KeepBut.blk hk (g' := gb123) (o := .cells #[.slice Ao9 y117.length co9, .slice Ao8 y120.length co8] 25 (0, 0)) (by (with_reducible repeat (first | refine blk_drewN ?_ _ | refine blk_drew ?_ | refine blk_alloc ?_ _)); refine blk_put (cs := #[.slice Ao9 y117.length co9, .slice none 0 0]) ?_ 1 _ rfl; (with_reducible repeat (first | refine blk_drewN ?_ _ | refine blk_drew ?_ | refine blk_alloc ?_ _)); refine blk_put (cs := #[.slice none 0 0, .slice none 0 0]) ?_ 0 _ rfl; (with_reducible repeat (first | refine blk_drewN ?_ _ | refine blk_drew ?_ | refine blk_alloc ?_ _)); exact BK123.out) NB123_0.out (by simp)); have n4_ := Aside0.mk (KeepBut.trans (by repeat (first | (with_reducible first | exact HK.out | apply KeepBut.set_ | apply keep_drewN | apply keep_drew | apply keep_alloc | refine keep_far ?_ GW116.out _ | refine keep_far ?_ GW123.out _) | exact HK.out)) hk (.inl rfl)); have n5_ := Aside0.mk (hb); have n6_ := Aside0.mk (hi); clear BK116; clear HO119; clear HO122; clear BK123; clear HK; clear HB; clear HI0; have BK116 := n0_; have HO119 := n1_; have HO122 := n2_; have BK123 := n3_; have HK := n4_; have HB := n5_; have HI0 := n6_; clear n0_ n1_ n2_ n3_ n4_ n5_ n6_; (try clear hb); (try clear hb2); (try clear hk); (try clear hi)))
  go_loopg [4] k (fun kq v4 w' => ∃ (x4_1 : Int) (x1000_1 : ByteArray) (x1001_1 : Int) (x1002_1 : Bool) (x124000_1 : List Int) (u124000 : Value), v4 = .int .i64 x4_1 ∧ Aside0 (spec_l11Reader_commit.l0 kq x4_1 x1000_1 x1001_1 x1002_1 x124000_1 y120 = some (r1, r2, r3, r4, r5)) ∧ Aside0 (kq ≤ k) ∧ Aside0 (Kd.R (Kd.int .i64) 3 w' w.heap.size (fun _ => True) u124000 x124000_1) ∧ Aside0 (Kd.R k90 90 w' w.heap.size (fun _ => True) (.slice Ao8 y120.length co8) y120) ∧ Aside0 (w'.heap[gb116]? = some (.cells #[(.slice none 0 0), (.slice none 0 0)] 25 (0, 0))) ∧ Aside0 (w'.heap[gb123]? = some (.cells #[u124000, (.slice Ao8 y120.length co8)] 25 (0, 0))) ∧ Aside0 (IsS60 w0 w' g x1000_1 x1001_1 x1002_1) ∧ Aside0 (KeepBut w w' g none) ∧ Aside0 (Below w0.heap.size w0 w'))
  case atStart => exact ⟨(t124), (t125), (t126), (t127), (y117), (.slice Ao9 y117.length co9), vE, H', ⟨Nat.le_refl _⟩, ⟨by (with_reducible repeat (first | apply Kd.R_alloc | apply Kd.R_drewN | apply Kd.R_drew)); exact HO119.out⟩, ⟨by (with_reducible repeat (first | apply Kd.R_alloc | apply Kd.R_drewN | apply Kd.R_drew)); exact HO122.out⟩, ⟨by (with_reducible repeat (first | refine blk_drewN ?_ _ | refine blk_drew ?_ | refine blk_alloc ?_ _)); exact BK116.out⟩, ⟨by (with_reducible repeat (first | refine blk_drewN ?_ _ | refine blk_drew ?_ | refine blk_alloc ?_ _)); exact BK123.out⟩, ⟨by repeat (first | (with_reducible first | exact HI0.out | apply IsS60.alloc | apply IsS60.drewN | apply IsS60.drew | apply IsS60.set_0 | apply IsS60.set_1 | apply IsS60.set_2 | refine IsS60.far ?_ NB0_116.out _ | refine IsS60.far ?_ NB0_123.out _) | exact HI0.out)⟩, ⟨by repeat (first | (with_reducible first | exact HK.out | apply KeepBut.set_ | apply keep_drewN | apply keep_drew | apply keep_alloc | refine keep_far ?_ GW116.out _ | refine keep_far ?_ GW123.out _) | exact HK.out)⟩, ⟨by repeat (first | (with_reducible first | exact HB.out | apply below_alloc | apply pw_below_drewN | apply below_drew1 | refine below_set ?_ (IsS60.ge HI0.out) | refine below_set ?_ GE116.out | refine below_set ?_ GE123.out) | exact HB.out)⟩⟩
  case round =>
    clear H'
    try clear c1
    try clear c2
    try clear p2
    try clear c6
    try clear c11
    try clear c12
    try clear hcz13_0
    try clear hcz13_1
    try clear hfz13_0
    try clear hfz13_1
    obtain ⟨x4_1, x1000_1, x1001_1, x1002_1, x124000_1, u124000, rfl, HA, HK1, HO_124000, HO_124001, BK116, BK123, HI0, HK, HB⟩ := hrel
    cases gk with
    | zero => exact absurd HA.out (by simp [spec_l11Reader_commit.l0])
    | succ k1 =>
      have H := HA.out
      clear HA
      simp only [spec_l11Reader_commit.l0] at H
      by_cases c15 : x4_1 > 0
      · rw [if_pos c15] at H
        have c15b0 : decide (0 < x4_1) = true := decide_eq_true c15
        clear c15
        replace H := Option.bind_eq_some_iff.mp H
        obtain ⟨⟨t128, t129, t130, t131⟩, A160, H⟩ := H
        replace H : (if x124000_1.length < 17592186044416 then (spec_l11Reader_commit.l0 k1 (wrap64 (x4_1 - 1)) t129 t130 t131 (x124000_1 ++ [t128]) y120) else (none)) = some (r1, r2, r3, r4, r5) := H
        have A16 := Aside0.mk A160
        clear A160
        by_cases c17 : x124000_1.length < 17592186044416
        · rw [if_pos c17] at H
          have LMc17 := Aside0.mk c17
          clear c17
          obtain ⟨y132, hy132⟩ : ∃ y_ : List Int, y_ = (x124000_1 ++ [t128]) := ⟨_, rfl⟩
          replace H : (spec_l11Reader_commit.l0 k1 (wrap64 (x4_1 - 1)) t129 t130 t131 y132 y120) = some (r1, r2, r3, r4, r5) := by first | (rw [hy132]; with_reducible exact H) | (have H2_ := (Option.bind_some _ _).symm.trans H; rw [hy132]; with_reducible exact H2_) | (have H2_ := (Option.bind_some _ _).symm.trans H; with_reducible exact H2_) | with_reducible exact H | (rw [hy132]; exact H) | exact H
          have Ny132 := Aside0.mk hy132
          clear hy132
          have H' := Aside0.mk H
          clear H
          try go_wp2
          have n0_ := Aside0.mk (Kd.R_drew HO_124000.out)
          have n1_ := Aside0.mk (Kd.R_drew HO_124001.out)
          have n2_ := Aside0.mk (blk_drew BK116.out)
          have n3_ := Aside0.mk (blk_drew BK123.out)
          have n4_ := Aside0.mk (IsS60.drew HI0.out)
          have n5_ := Aside0.mk (keep_drew HK.out)
          have n6_ := Aside0.mk (below_drew1 HB.out)
          clear HO_124000
          clear HO_124001
          clear BK116
          clear BK123
          clear HI0
          clear HK
          clear HB
          have HO_124000 := n0_
          have HO_124001 := n1_
          have BK116 := n2_
          have BK123 := n3_
          have HI0 := n4_
          have HK := n5_
          have HB := n6_
          clear n0_ n1_ n2_ n3_ n4_ n5_ n6_
          refine start_ (n := 8) (S := fun w' => w'.cell? ⟨gb123, 0, none⟩ = some (u124000) ∧ w'.cell? ⟨gb123, 1, none⟩ = some (.slice Ao8 y120.length co8)) (ds := [7]) #[false, false, false, false, false, false, false, false] (by kernel_rfl) rfl rfl ⟨(blk_cell BK123.out 0).trans rfl, (blk_cell BK123.out 1).trans rfl⟩ (fun hHeld => ?_); refine with_tabW spec_l11Reader_commit.tab5 spec_l11Reader_commit.bits5 (fun HT_ HW_ => ?_)
          generalize wr.drew = w18 at HO_124000 HO_124001 BK116 BK123 HI0 HK HB hHeld ⊢
          refine pure_ (i := 0) (N := some 16) (v := ?_) (a' := ?_) #[true, false, false, false, false, false, false, false] rfl rfl (any_of HT_.out (by kernel_rfl)) (fun _ _ _ h => h) (Or.inl ⟨by rfl, ?_⟩) ?_ ?_; rotate_left; (focus intro w'; go_simp; with_reducible rfl); rotate_left; (focus simp only [pt, i64_w, i32_w]; rfl)
          refine pure_ (i := 2) (N := some 18) (v := ?_) (a' := ?_) #[true, false, true, false, false, false, false, false] rfl rfl (any_of HT_.out (by kernel_rfl)) (fun _ _ _ h => h) (Or.inl ⟨by rfl, ?_⟩) ?_ ?_; rotate_left; (focus intro w'; go_simp; with_reducible rfl); rotate_left; (focus simp only [pt, i64_w, i32_w]; rfl)
          refine take_ (i := 1) (N := some 17) (v := ?_) (a' := ?_) #[true, true, true, false, false, false, false, false] rfl rfl (take_ofW HT_.out HW_.out (by kernel_rfl)) (fun _ _ _ h => h) (Or.inl ⟨by rfl, ?_⟩) hHeld ?_ ?_; rotate_left; (focus rintro w' ⟨s0, s1⟩; go_simp; with_reducible rfl); rotate_left; (focus simp only [pt, i64_w, i32_w]; rfl)
          refine one_ (i := 3) (N := some 19) #[true, true, true, true, false, false, false, false] rfl rfl (one_of HT_.out (by kernel_rfl)) (by decide) (fun K hK => ?_)
          refine goes_ Try.func65 (by kernel_rfl) rfl #[.pointer (some ⟨g, 0, none⟩)] (by rfl) rfl rfl gA ?_
          with_reducible refine (spec_l11Reader_number.calls k1 g x1000_1 x1001_1 x1002_1 t128 t129 t130 t131 w0 _ ?side1 ?side2 A16.out).mono ?_
          (case side1 => repeat (first | (with_reducible first | exact HI0.out | apply IsS60.alloc | apply IsS60.drewN | apply IsS60.drew | apply IsS60.set_0 | apply IsS60.set_1 | apply IsS60.set_2 | refine IsS60.far ?_ NB0_116.out _ | refine IsS60.far ?_ NB0_123.out _) | exact HI0.out))
          (case side2 => repeat (first | (with_reducible first | exact HB.out | apply below_alloc | apply pw_below_drewN | apply below_drew1 | refine below_set ?_ (IsS60.ge HI0.out) | refine below_set ?_ GE116.out | refine below_set ?_ GE123.out) | exact HB.out))
          rintro e w19 ⟨rfl, hi, hb, hk⟩
          refine ⟨_, rfl, ?_⟩
          have n0_ := Aside0.mk (Kd.R_mono (Kd.R_keep (IsS60.apart (show IsS60 w0 _ g x1000_1 x1001_1 x1002_1 from by repeat (first | (with_reducible first | exact HI0.out | apply IsS60.alloc | apply IsS60.drewN | apply IsS60.drew | apply IsS60.set_0 | apply IsS60.set_1 | apply IsS60.set_2 | refine IsS60.far ?_ NB0_116.out _ | refine IsS60.far ?_ NB0_123.out _) | exact HI0.out)) (pR HO_124000) (by decide)) hk (fun _ h => h.2)) (fun _ h => h.1))
          have n1_ := Aside0.mk (Kd.R_mono (Kd.R_keep (IsS60.apart (show IsS60 w0 _ g x1000_1 x1001_1 x1002_1 from by repeat (first | (with_reducible first | exact HI0.out | apply IsS60.alloc | apply IsS60.drewN | apply IsS60.drew | apply IsS60.set_0 | apply IsS60.set_1 | apply IsS60.set_2 | refine IsS60.far ?_ NB0_116.out _ | refine IsS60.far ?_ NB0_123.out _) | exact HI0.out)) (pR HO_124001) (by decide)) hk (fun _ h => h.2)) (fun _ h => h.1))
          have n2_ := Aside0.mk (KeepBut.blk hk (g' := gb116) (o := .cells #[.slice none 0 0, .slice none 0 0] 25 (0, 0)) (kB BK116) NB116_0.out (by simp))
          have n3_ := Aside0.mk (KeepBut.blk hk (g' := gb123) (o := .cells #[u124000, .slice Ao8 y120.length co8] 25 (0, 0)) (kB BK123) NB123_0.out (by simp))
          have n4_ := Aside0.mk (KeepBut.trans (by repeat (first | (with_reducible first | exact HK.out | apply KeepBut.set_ | apply keep_drewN | apply keep_drew | apply keep_alloc | refine keep_far ?_ GW116.out _ | refine keep_far ?_ GW123.out _) | exact HK.out)) hk (.inl rfl))
          have n5_ := Aside0.mk (hb)
          have n6_ := Aside0.mk (hi)
          clear HO_124000
          clear HO_124001
          clear BK116
          clear BK123
          clear HK
          clear HB
          clear HI0
          have HO_124000 := n0_
          have HO_124001 := n1_
          have BK116 := n2_
          have BK123 := n3_
          have HK := n4_
          have HB := n5_
          have HI0 := n6_
          clear n0_ n1_ n2_ n3_ n4_ n5_ n6_
          (try clear hb)
          (try clear hb2)
          (try clear hk)
          (try clear hi)
          refine hK.out _ _ ⟨(blk_cell BK123.out 0).trans rfl, (blk_cell BK123.out 1).trans rfl⟩ (fun hHeld => ?_)
          clear hK K
          refine norm_ (a' := ?_) ?_ ?_
          rotate_left
          · show Act.put _ (some 19) _ = _
            simp only [Act.put, List.setIfInBounds_toArray, List.set_cons_zero, List.set_cons_succ, i64_w, i32_w]
            rfl
          refine one_ (i := 4) (N := some 20) #[true, true, true, true, true, false, false, false] rfl rfl (one_of HT_.out (by kernel_rfl)) (by decide) (fun K hK => ?_)
          refine value_ (w1 := ?_) (v := ?_) (by rfl) rfl ?_ ?_
          rotate_left 2
          · go_simp
            constructor
            · rfl
            · rfl
          refine hK.out _ _ ⟨(blk_cell (blk_alloc BK123.out _) 0).trans rfl, (blk_cell (blk_alloc BK123.out _) 1).trans rfl⟩ (fun hHeld => ?_)
          clear hK K
          refine norm_ (a' := ?_) ?_ ?_
          rotate_left
          · show Act.put _ (some 20) _ = _
            simp only [Act.put, List.setIfInBounds_toArray, List.set_cons_zero, List.set_cons_succ, i64_w, i32_w]
            rfl
          refine one_ (i := 5) (N := some 21) #[true, true, true, true, true, true, false, false] rfl rfl (one_of HT_.out (by kernel_rfl)) (by decide) (fun K hK => ?_)
          refine Kd.R_append_step (Kd.int .i64) w.heap.size (by rfl) (.tmp 17) (.tmp 20) 22 3 (.int .i64 0) 8 rfl Try.underlying22 info3 rfl (by decide) (by omega) u124000 x124000_1 t128 [.int .i64 t128] (fun _ => True) (fun _ => False) rfl rfl ?aP (fun _ hk => hk.elim) ?aF ?aO (Below.refl _ _) ?aS ?aL ?_
          (case aP => exact rfl)
          (case aF => exact (fun _ _ => trivial))
          (case aO => exact (pR HO_124000))
          (case aS => exact (keep_size (w := w) (g := g) (row := none) (by repeat (first | (with_reducible first | exact HK.out | apply KeepBut.set_ | apply keep_drewN | apply keep_drew | apply keep_alloc | refine keep_far ?_ GW116.out _ | refine keep_far ?_ GW123.out _) | exact HK.out))))
          (case aL => have := LMc17.out; omega)
          intro v133 w20 ho hb hg hat
          rw [← Ny132.out] at ho
          have n0_ := Aside0.mk (Kd.R_over' (pR HO_124001) (Kd.R_typed (pR HO_124000)) (by decide) hg)
          have n1_ := Aside0.mk (blk_grown (g := gb116) (o := .cells #[.slice none 0 0, .slice none 0 0] 25 (0, 0)) (kB BK116) hg (Kd.R_ne HO_124000.out BK116.out (by decide)))
          have n2_ := Aside0.mk (blk_grown (g := gb123) (o := .cells #[u124000, .slice Ao8 y120.length co8] 25 (0, 0)) (kB BK123) hg (Kd.R_ne HO_124000.out BK123.out (by decide)))
          have n3_ := Aside0.mk (IsS60.grown (by repeat (first | (with_reducible first | exact HI0.out | apply IsS60.alloc | apply IsS60.drewN | apply IsS60.drew | apply IsS60.set_0 | apply IsS60.set_1 | apply IsS60.set_2 | refine IsS60.far ?_ NB0_116.out _ | refine IsS60.far ?_ NB0_123.out _) | exact HI0.out)) hg (IsS60.own_ne HI0.out HO_124000.out (by decide)))
          have n4_ := Aside0.mk (below_weaken (by repeat (first | (with_reducible first | exact HB.out | apply below_alloc | apply pw_below_drewN | apply below_drew1 | refine below_set ?_ (IsS60.ge HI0.out) | refine below_set ?_ GE116.out | refine below_set ?_ GE123.out) | exact HB.out)) HL.out hb)
          have n5_ := Aside0.mk (KeepBut.trans (by repeat (first | (with_reducible first | exact HK.out | apply KeepBut.set_ | apply keep_drewN | apply keep_drew | apply keep_alloc | refine keep_far ?_ GW116.out _ | refine keep_far ?_ GW123.out _) | exact HK.out)) (KeepBut.of_grown hg g) (Kd.R_base2 HO_124000.out))
          have n6_ := Aside0.mk (ho)
          clear HO_124001
          clear BK116
          clear BK123
          clear HI0
          clear HB
          clear HK
          clear HO_124000
          have HO_124001 := n0_
          have BK116 := n1_
          have BK123 := n2_
          have HI0 := n3_
          have HB := n4_
          have HK := n5_
          have HO134 := n6_
          clear n0_ n1_ n2_ n3_ n4_ n5_ n6_
          clear ho hb hg hat
          obtain ⟨Ao21, co21, eo21⟩ := Kd.R_slice HO134.out
          (first | subst eo21 | (injection eo21 with f1_ f2_ f3_; have f4_ := f1_.symm; have f5_ := f3_.symm; clear f1_ f2_ f3_; subst f4_; subst f5_))
          refine hK.out _ _ ⟨(blk_cell BK123.out 0).trans rfl, (blk_cell BK123.out 1).trans rfl⟩ (fun hHeld => ?_)
          clear hK K
          refine norm_ (a' := ?_) ?_ ?_
          rotate_left
          · show Act.put _ (some 21) _ = _
            simp only [Act.put, List.setIfInBounds_toArray, List.set_cons_zero, List.set_cons_succ, i64_w, i32_w]
            rfl
          refine pure_ (i := 6) (N := some 22) (v := ?_) (a' := ?_) #[true, true, true, true, true, true, true, false] rfl rfl (any_of HT_.out (by kernel_rfl)) (fun _ _ _ h => h) (Or.inl ⟨by rfl, ?_⟩) ?_ ?_; rotate_left; (focus intro w'; go_simp; with_reducible rfl); rotate_left; (focus simp only [pt, i64_w, i32_w]; rfl)
          refine last_ (i := 7) (N := none) #[true, true, true, true, true, true, true, true] rfl rfl (one_of HT_.out (by kernel_rfl)) (by decide) (fun K hK => ?_)
          have hs22 : w20.cell? ⟨gb123, 0, none⟩ = some (u124000) := (blk_cell BK123.out 0).trans rfl
          have hfs22 := blk_frozen BK123.out 0
          have hns22_0 := NB116_123.out
          have hms22_0 := NB123_116.out
          refine skip_ (w1 := ?_) (by rfl) rfl ?_ ?_
          rotate_left
          · go_simp
            rfl
          refine hK.out _ _ ?_
          clear hK K
          refine done_ (done_of HT_.out (by kernel_rfl)) ?_
          try go_wp2
          go_roundg k1
          case measure => have := HK1.out; omega
          case rel => exact ⟨(wrap64 (x4_1 - 1)), (t129), (t130), (t131), (y132), (.slice Ao21 y132.length co21), vE, H', ⟨by have := HK1.out; omega⟩, ⟨by (with_reducible repeat (first | apply Kd.R_alloc | apply Kd.R_drewN | apply Kd.R_drew)); exact Kd.R_mono (Kd.R_far (p := ⟨gb123, 0, none⟩) (Kd.R_types HO134.out BK123.out (by decide)) (fun _ hk => hk.2) (.slice Ao21 y132.length co21)) (fun _ hk => trivial)⟩, ⟨by (with_reducible repeat (first | apply Kd.R_alloc | apply Kd.R_drewN | apply Kd.R_drew)); exact Kd.R_mono (Kd.R_far (p := ⟨gb123, 0, none⟩) (Kd.R_types HO_124001.out BK123.out (by decide)) (fun _ hk => hk.2) (.slice Ao21 y132.length co21)) (fun _ hk => trivial)⟩, ⟨by (with_reducible repeat (first | refine blk_drewN ?_ _ | refine blk_drew ?_ | refine blk_alloc ?_ _)); refine blk_far ?_ NB116_123.out _; (with_reducible repeat (first | refine blk_drewN ?_ _ | refine blk_drew ?_ | refine blk_alloc ?_ _)); exact BK116.out⟩, ⟨by (with_reducible repeat (first | refine blk_drewN ?_ _ | refine blk_drew ?_ | refine blk_alloc ?_ _)); refine blk_put (cs := #[u124000, .slice Ao8 y120.length co8]) ?_ 0 _ rfl; (with_reducible repeat (first | refine blk_drewN ?_ _ | refine blk_drew ?_ | refine blk_alloc ?_ _)); exact BK123.out⟩, ⟨by repeat (first | (with_reducible first | exact HI0.out | apply IsS60.alloc | apply IsS60.drewN | apply IsS60.drew | apply IsS60.set_0 | apply IsS60.set_1 | apply IsS60.set_2 | refine IsS60.far ?_ NB0_116.out _ | refine IsS60.far ?_ NB0_123.out _) | exact HI0.out)⟩, ⟨by repeat (first | (with_reducible first | exact HK.out | apply KeepBut.set_ | apply keep_drewN | apply keep_drew | apply keep_alloc | refine keep_far ?_ GW116.out _ | refine keep_far ?_ GW123.out _) | exact HK.out)⟩, ⟨by repeat (first | (with_reducible first | exact HB.out | apply below_alloc | apply pw_below_drewN | apply below_drew1 | refine below_set ?_ (IsS60.ge HI0.out) | refine below_set ?_ GE116.out | refine below_set ?_ GE123.out) | exact HB.out)⟩⟩
        · rw [if_neg c17] at H
          exact absurd H (by simp)
      · rw [if_neg c15] at H
        have c15b0 : decide (0 < x4_1) = false := decide_eq_false c15
        clear c15
        replace H := Option.bind_eq_some_iff.mp H
        obtain ⟨⟨t135, t136, t137, t138⟩, A230, H⟩ := H
        replace H : (spec_l11Reader_commit.l1 k1 t135 t136 t137 t138 x124000_1 y120) = some (r1, r2, r3, r4, r5) := H
        have A23 := Aside0.mk A230
        clear A230
        have H' := Aside0.mk H
        clear H
        go_wp2_with (first | ((with_reducible refine gate_callee (f := 64) rfl ?_); refine goesL_ (some 24) rfl rfl Try.func64 (by kernel_rfl) rfl #[.pointer (some ⟨g, 0, none⟩), .int .i64 12] rfl gA ?_; (with_reducible refine (spec_l11Reader_count.calls k1 g x1000_1 x1001_1 x1002_1 12 t135 t136 t137 t138 w0 _ ?side1 ?side2 A23.out).mono ?_); (case side1 => repeat (first | (with_reducible first | exact HI0.out | apply IsS60.alloc | apply IsS60.drewN | apply IsS60.drew | apply IsS60.set_0 | apply IsS60.set_1 | apply IsS60.set_2 | refine IsS60.far ?_ NB0_116.out _ | refine IsS60.far ?_ NB0_123.out _) | exact HI0.out)); (case side2 => repeat (first | (with_reducible first | exact HB.out | apply below_alloc | apply pw_below_drewN | apply below_drew1 | refine below_set ?_ (IsS60.ge HI0.out) | refine below_set ?_ GE116.out | refine below_set ?_ GE123.out) | exact HB.out)); rintro e w24 ⟨rfl, hi, hb, hk⟩; refine ⟨_, rfl, ?_⟩; have n0_ := Aside0.mk (Kd.R_mono (Kd.R_keep (IsS60.apart (show IsS60 w0 _ g x1000_1 x1001_1 x1002_1 from by repeat (first | (with_reducible first | exact HI0.out | apply IsS60.alloc | apply IsS60.drewN | apply IsS60.drew | apply IsS60.set_0 | apply IsS60.set_1 | apply IsS60.set_2 | refine IsS60.far ?_ NB0_116.out _ | refine IsS60.far ?_ NB0_123.out _) | exact HI0.out)) (pR HO_124000) (by decide)) hk (fun _ h => h.2)) (fun _ h => h.1)); have n1_ := Aside0.mk (Kd.R_mono (Kd.R_keep (IsS60.apart (show IsS60 w0 _ g x1000_1 x1001_1 x1002_1 from by repeat (first | (with_reducible first | exact HI0.out | apply IsS60.alloc | apply IsS60.drewN | apply IsS60.drew | apply IsS60.set_0 | apply IsS60.set_1 | apply IsS60.set_2 | refine IsS60.far ?_ NB0_116.out _ | refine IsS60.far ?_ NB0_123.out _) | exact HI0.out)) (pR HO_124001) (by decide)) hk (fun _ h => h.2)) (fun _ h => h.1)); have n2_ := Aside0.mk (KeepBut.blk hk (g' := gb116) (o := .cells #[.slice none 0 0, .slice none 0 0] 25 (0, 0)) (kB BK116) NB116_0.out (by simp)); have n3_ := Aside0.mk (KeepBut.blk hk (g' := gb123) (o := .cells #[u124000, .slice Ao8 y120.length co8] 25 (0, 0)) (kB BK123) NB123_0.out (by simp)); have n4_ := Aside0.mk (KeepBut.trans (by repeat (first | (with_reducible first | exact HK.out | apply KeepBut.set_ | apply keep_drewN | apply keep_drew | apply keep_alloc | refine keep_far ?_ GW116.out _ | refine keep_far ?_ GW123.out _) | exact HK.out)) hk (.inl rfl)); have n5_ := Aside0.mk (hb); have n6_ := Aside0.mk (hi); clear HO_124000; clear HO_124001; clear BK116; clear BK123; clear HK; clear HB; clear HI0; have HO_124000 := n0_; have HO_124001 := n1_; have BK116 := n2_; have BK123 := n3_; have HK := n4_; have HB := n5_; have HI0 := n6_; clear n0_ n1_ n2_ n3_ n4_ n5_ n6_; (try clear hb); (try clear hb2); (try clear hk); (try clear hi)))
        go_loopg [5] k1 (fun kq v5 w' => ∃ (x5_2 : Int) (x1000_2 : ByteArray) (x1001_2 : Int) (x1002_2 : Bool) (x124001_2 : List (S90)) (u124001 : Value), v5 = .int .i64 x5_2 ∧ Aside0 (spec_l11Reader_commit.l1 kq x5_2 x1000_2 x1001_2 x1002_2 x124000_1 x124001_2 = some (r1, r2, r3, r4, r5)) ∧ Aside0 (kq ≤ k1) ∧ Aside0 (Kd.R (Kd.int .i64) 3 w' w.heap.size (fun _ => True) u124000 x124000_1) ∧ Aside0 (Kd.R k90 90 w' w.heap.size (fun _ => True) u124001 x124001_2) ∧ Aside0 (w'.heap[gb116]? = some (.cells #[(.slice none 0 0), (.slice none 0 0)] 25 (0, 0))) ∧ Aside0 (w'.heap[gb123]? = some (.cells #[u124000, u124001] 25 (0, 0))) ∧ Aside0 (IsS60 w0 w' g x1000_2 x1001_2 x1002_2) ∧ Aside0 (KeepBut w w' g none) ∧ Aside0 (Below w0.heap.size w0 w'))
        case atStart => exact ⟨(t135), (t136), (t137), (t138), (y120), (.slice Ao8 y120.length co8), vE, H', ⟨Nat.le_refl _⟩, ⟨by (with_reducible repeat (first | apply Kd.R_alloc | apply Kd.R_drewN | apply Kd.R_drew)); exact HO_124000.out⟩, ⟨by (with_reducible repeat (first | apply Kd.R_alloc | apply Kd.R_drewN | apply Kd.R_drew)); exact HO_124001.out⟩, ⟨by (with_reducible repeat (first | refine blk_drewN ?_ _ | refine blk_drew ?_ | refine blk_alloc ?_ _)); exact BK116.out⟩, ⟨by (with_reducible repeat (first | refine blk_drewN ?_ _ | refine blk_drew ?_ | refine blk_alloc ?_ _)); exact BK123.out⟩, ⟨by repeat (first | (with_reducible first | exact HI0.out | apply IsS60.alloc | apply IsS60.drewN | apply IsS60.drew | apply IsS60.set_0 | apply IsS60.set_1 | apply IsS60.set_2 | refine IsS60.far ?_ NB0_116.out _ | refine IsS60.far ?_ NB0_123.out _) | exact HI0.out)⟩, ⟨by repeat (first | (with_reducible first | exact HK.out | apply KeepBut.set_ | apply keep_drewN | apply keep_drew | apply keep_alloc | refine keep_far ?_ GW116.out _ | refine keep_far ?_ GW123.out _) | exact HK.out)⟩, ⟨by repeat (first | (with_reducible first | exact HB.out | apply below_alloc | apply pw_below_drewN | apply below_drew1 | refine below_set ?_ (IsS60.ge HI0.out) | refine below_set ?_ GE116.out | refine below_set ?_ GE123.out) | exact HB.out)⟩⟩
        case round =>
          clear H'
          try clear c1
          try clear c2
          try clear p2
          try clear c6
          try clear p6
          try clear c11
          try clear c12
          try clear c15
          try clear c15b0
          try clear c17
          try clear hcz13_0
          try clear hcz13_1
          try clear hfz13_0
          try clear hfz13_1
          try clear p2
          obtain ⟨x5_2, x1000_2, x1001_2, x1002_2, x124001_2, u124001, rfl, HA, HK2, HO_124000, HO_124001, BK116, BK123, HI0, HK, HB⟩ := hrel
          cases gk with
          | zero => exact absurd HA.out (by simp [spec_l11Reader_commit.l1])
          | succ k2 =>
            have H := HA.out
            clear HA
            simp only [spec_l11Reader_commit.l1] at H
            by_cases c25 : x5_2 > 0
            · rw [if_pos c25] at H
              have c25b0 : decide (0 < x5_2) = true := decide_eq_true c25
              clear c25
              replace H := Option.bind_eq_some_iff.mp H
              obtain ⟨⟨t139, t140, t141, t142⟩, A260, H⟩ := H
              replace H : ((spec_l11Reader_signed.f k2 t140 t141 t142).bind fun bt143 => (if x124001_2.length < 5864062014805 then (spec_l11Reader_commit.l1 k2 (wrap64 (x5_2 - 1)) bt143.2.1 bt143.2.2.1 bt143.2.2.2 x124000_1 (x124001_2 ++ [(⟨t139, bt143.1⟩ : S90)])) else (none))) = some (r1, r2, r3, r4, r5) := H
              have A26 := Aside0.mk A260
              clear A260
              replace H := Option.bind_eq_some_iff.mp H
              obtain ⟨⟨t143, t144, t145, t146⟩, A270, H⟩ := H
              replace H : (if x124001_2.length < 5864062014805 then (spec_l11Reader_commit.l1 k2 (wrap64 (x5_2 - 1)) t144 t145 t146 x124000_1 (x124001_2 ++ [(⟨t139, t143⟩ : S90)])) else (none)) = some (r1, r2, r3, r4, r5) := H
              have A27 := Aside0.mk A270
              clear A270
              by_cases c28 : x124001_2.length < 5864062014805
              · rw [if_pos c28] at H
                have LMc28 := Aside0.mk c28
                clear c28
                obtain ⟨y147, hy147⟩ : ∃ y_ : List (S90), y_ = (x124001_2 ++ [(⟨t139, t143⟩ : S90)]) := ⟨_, rfl⟩
                replace H : (spec_l11Reader_commit.l1 k2 (wrap64 (x5_2 - 1)) t144 t145 t146 x124000_1 y147) = some (r1, r2, r3, r4, r5) := by first | (rw [hy147]; with_reducible exact H) | (have H2_ := (Option.bind_some _ _).symm.trans H; rw [hy147]; with_reducible exact H2_) | (have H2_ := (Option.bind_some _ _).symm.trans H; with_reducible exact H2_) | with_reducible exact H | (rw [hy147]; exact H) | exact H
                have Ny147 := Aside0.mk hy147
                clear hy147
                have H' := Aside0.mk H
                clear H
                try go_wp2_with (first | ((with_reducible refine gate_callee (f := 66) rfl ?_); refine goesL_ (some 30) rfl rfl Try.func66 (by kernel_rfl) rfl #[.pointer (some ⟨g, 0, none⟩)] rfl gA ?_; (with_reducible refine (spec_l11Reader_word.calls k2 g x1000_2 x1001_2 x1002_2 t139 t140 t141 t142 w0 _ ?side1 ?side2 A26.out).mono ?_); (case side1 => repeat (first | (with_reducible first | exact HI0.out | apply IsS60.alloc | apply IsS60.drewN | apply IsS60.drew | apply IsS60.set_0 | apply IsS60.set_1 | apply IsS60.set_2 | refine IsS60.far ?_ NB0_116.out _ | refine IsS60.far ?_ NB0_123.out _) | exact HI0.out)); (case side2 => repeat (first | (with_reducible first | exact HB.out | apply below_alloc | apply pw_below_drewN | apply below_drew1 | refine below_set ?_ (IsS60.ge HI0.out) | refine below_set ?_ GE116.out | refine below_set ?_ GE123.out) | exact HB.out)); rintro e w29 ⟨rfl, hi, hb, hk⟩; refine ⟨_, rfl, ?_⟩; have n0_ := Aside0.mk (Kd.R_mono (Kd.R_keep (IsS60.apart (show IsS60 w0 _ g x1000_2 x1001_2 x1002_2 from by repeat (first | (with_reducible first | exact HI0.out | apply IsS60.alloc | apply IsS60.drewN | apply IsS60.drew | apply IsS60.set_0 | apply IsS60.set_1 | apply IsS60.set_2 | refine IsS60.far ?_ NB0_116.out _ | refine IsS60.far ?_ NB0_123.out _) | exact HI0.out)) (pR HO_124000) (by decide)) hk (fun _ h => h.2)) (fun _ h => h.1)); have n1_ := Aside0.mk (Kd.R_mono (Kd.R_keep (IsS60.apart (show IsS60 w0 _ g x1000_2 x1001_2 x1002_2 from by repeat (first | (with_reducible first | exact HI0.out | apply IsS60.alloc | apply IsS60.drewN | apply IsS60.drew | apply IsS60.set_0 | apply IsS60.set_1 | apply IsS60.set_2 | refine IsS60.far ?_ NB0_116.out _ | refine IsS60.far ?_ NB0_123.out _) | exact HI0.out)) (pR HO_124001) (by decide)) hk (fun _ h => h.2)) (fun _ h => h.1)); have n2_ := Aside0.mk (KeepBut.blk hk (g' := gb116) (o := .cells #[.slice none 0 0, .slice none 0 0] 25 (0, 0)) (kB BK116) NB116_0.out (by simp)); have n3_ := Aside0.mk (KeepBut.blk hk (g' := gb123) (o := .cells #[u124000, u124001] 25 (0, 0)) (kB BK123) NB123_0.out (by simp)); have n4_ := Aside0.mk (KeepBut.trans (by repeat (first | (with_reducible first | exact HK.out | apply KeepBut.set_ | apply keep_drewN | apply keep_drew | apply keep_alloc | refine keep_far ?_ GW116.out _ | refine keep_far ?_ GW123.out _) | exact HK.out)) hk (.inl rfl)); have n5_ := Aside0.mk (hb); have n6_ := Aside0.mk (hi); clear HO_124000; clear HO_124001; clear BK116; clear BK123; clear HK; clear HB; clear HI0; have HO_124000 := n0_; have HO_124001 := n1_; have BK116 := n2_; have BK123 := n3_; have HK := n4_; have HB := n5_; have HI0 := n6_; clear n0_ n1_ n2_ n3_ n4_ n5_ n6_; (try clear hb); (try clear hb2); (try clear hk); (try clear hi)))
                have n0_ := Aside0.mk (Kd.R_drew HO_124000.out)
                have n1_ := Aside0.mk (Kd.R_drew HO_124001.out)
                have n2_ := Aside0.mk (blk_drew BK116.out)
                have n3_ := Aside0.mk (blk_drew BK123.out)
                have n4_ := Aside0.mk (IsS60.drew HI0.out)
                have n5_ := Aside0.mk (keep_drew HK.out)
                have n6_ := Aside0.mk (below_drew1 HB.out)
                clear HO_124000
                clear HO_124001
                clear BK116
                clear BK123
                clear HI0
                clear HK
                clear HB
                have HO_124000 := n0_
                have HO_124001 := n1_
                have BK116 := n2_
                have BK123 := n3_
                have HI0 := n4_
                have HK := n5_
                have HB := n6_
                clear n0_ n1_ n2_ n3_ n4_ n5_ n6_
                refine start_ (n := 10) (S := fun w' => w'.cell? ⟨gb123, 0, none⟩ = some (u124000) ∧ w'.cell? ⟨gb123, 1, none⟩ = some (u124001)) (ds := [9]) #[false, false, false, false, false, false, false, false, false, false] (by kernel_rfl) rfl rfl ⟨(blk_cell BK123.out 0).trans rfl, (blk_cell BK123.out 1).trans rfl⟩ (fun hHeld => ?_); refine with_tabW spec_l11Reader_commit.tab10 spec_l11Reader_commit.bits10 (fun HT_ HW_ => ?_)
                generalize w29.drew = w30 at HO_124000 HO_124001 BK116 BK123 HI0 HK HB hHeld ⊢
                refine pure_ (i := 0) (N := some 31) (v := ?_) (a' := ?_) #[true, false, false, false, false, false, false, false, false, false] rfl rfl (any_of HT_.out (by kernel_rfl)) (fun _ _ _ h => h) (Or.inl ⟨by rfl, ?_⟩) ?_ ?_; rotate_left; (focus intro w'; go_simp; with_reducible rfl); rotate_left; (focus simp only [pt, i64_w, i32_w]; rfl)
                refine pure_ (i := 2) (N := some 33) (v := ?_) (a' := ?_) #[true, false, true, false, false, false, false, false, false, false] rfl rfl (any_of HT_.out (by kernel_rfl)) (fun _ _ _ h => h) (Or.inl ⟨by rfl, ?_⟩) ?_ ?_; rotate_left; (focus intro w'; go_simp; with_reducible rfl); rotate_left; (focus simp only [pt, i64_w, i32_w]; rfl)
                refine pure_ (i := 3) (N := some 34) (v := ?_) (a' := ?_) #[true, false, true, true, false, false, false, false, false, false] rfl rfl (any_of HT_.out (by kernel_rfl)) (fun _ _ _ h => h) (Or.inl ⟨by rfl, ?_⟩) ?_ ?_; rotate_left; (focus intro w'; go_simp; with_reducible rfl); rotate_left; (focus simp only [pt, i64_w, i32_w]; rfl)
                refine take_ (i := 1) (N := some 32) (v := ?_) (a' := ?_) #[true, true, true, true, false, false, false, false, false, false] rfl rfl (take_ofW HT_.out HW_.out (by kernel_rfl)) (fun _ _ _ h => h) (Or.inl ⟨by rfl, ?_⟩) hHeld ?_ ?_; rotate_left; (focus rintro w' ⟨s0, s1⟩; go_simp; with_reducible rfl); rotate_left; (focus simp only [pt, i64_w, i32_w]; rfl)
                refine one_ (i := 4) (N := some 35) #[true, true, true, true, true, false, false, false, false, false] rfl rfl (one_of HT_.out (by kernel_rfl)) (by decide) (fun K hK => ?_)
                refine goes_ Try.func67 (by kernel_rfl) rfl #[.pointer (some ⟨g, 0, none⟩)] (by rfl) rfl rfl gA ?_
                with_reducible refine (spec_l11Reader_signed.calls k2 g t140 t141 t142 t143 t144 t145 t146 w0 _ ?side1 ?side2 A27.out).mono ?_
                (case side1 => repeat (first | (with_reducible first | exact HI0.out | apply IsS60.alloc | apply IsS60.drewN | apply IsS60.drew | apply IsS60.set_0 | apply IsS60.set_1 | apply IsS60.set_2 | refine IsS60.far ?_ NB0_116.out _ | refine IsS60.far ?_ NB0_123.out _) | exact HI0.out))
                (case side2 => repeat (first | (with_reducible first | exact HB.out | apply below_alloc | apply pw_below_drewN | apply below_drew1 | refine below_set ?_ (IsS60.ge HI0.out) | refine below_set ?_ GE116.out | refine below_set ?_ GE123.out) | exact HB.out))
                rintro e w31 ⟨rfl, hi, hb, hk⟩
                refine ⟨_, rfl, ?_⟩
                have n0_ := Aside0.mk (Kd.R_mono (Kd.R_keep (IsS60.apart (show IsS60 w0 _ g t140 t141 t142 from by repeat (first | (with_reducible first | exact HI0.out | apply IsS60.alloc | apply IsS60.drewN | apply IsS60.drew | apply IsS60.set_0 | apply IsS60.set_1 | apply IsS60.set_2 | refine IsS60.far ?_ NB0_116.out _ | refine IsS60.far ?_ NB0_123.out _) | exact HI0.out)) (pR HO_124000) (by decide)) hk (fun _ h => h.2)) (fun _ h => h.1))
                have n1_ := Aside0.mk (Kd.R_mono (Kd.R_keep (IsS60.apart (show IsS60 w0 _ g t140 t141 t142 from by repeat (first | (with_reducible first | exact HI0.out | apply IsS60.alloc | apply IsS60.drewN | apply IsS60.drew | apply IsS60.set_0 | apply IsS60.set_1 | apply IsS60.set_2 | refine IsS60.far ?_ NB0_116.out _ | refine IsS60.far ?_ NB0_123.out _) | exact HI0.out)) (pR HO_124001) (by decide)) hk (fun _ h => h.2)) (fun _ h => h.1))
                have n2_ := Aside0.mk (KeepBut.blk hk (g' := gb116) (o := .cells #[.slice none 0 0, .slice none 0 0] 25 (0, 0)) (kB BK116) NB116_0.out (by simp))
                have n3_ := Aside0.mk (KeepBut.blk hk (g' := gb123) (o := .cells #[u124000, u124001] 25 (0, 0)) (kB BK123) NB123_0.out (by simp))
                have n4_ := Aside0.mk (KeepBut.trans (by repeat (first | (with_reducible first | exact HK.out | apply KeepBut.set_ | apply keep_drewN | apply keep_drew | apply keep_alloc | refine keep_far ?_ GW116.out _ | refine keep_far ?_ GW123.out _) | exact HK.out)) hk (.inl rfl))
                have n5_ := Aside0.mk (hb)
                have n6_ := Aside0.mk (hi)
                clear HO_124000
                clear HO_124001
                clear BK116
                clear BK123
                clear HK
                clear HB
                clear HI0
                have HO_124000 := n0_
                have HO_124001 := n1_
                have BK116 := n2_
                have BK123 := n3_
                have HK := n4_
                have HB := n5_
                have HI0 := n6_
                clear n0_ n1_ n2_ n3_ n4_ n5_ n6_
                (try clear hb)
                (try clear hb2)
                (try clear hk)
                (try clear hi)
                refine hK.out _ _ ⟨(blk_cell BK123.out 0).trans rfl, (blk_cell BK123.out 1).trans rfl⟩ (fun hHeld => ?_)
                clear hK K
                refine norm_ (a' := ?_) ?_ ?_
                rotate_left
                · show Act.put _ (some 35) _ = _
                  simp only [Act.put, List.setIfInBounds_toArray, List.set_cons_zero, List.set_cons_succ, i64_w, i32_w]
                  rfl
                refine pure_ (i := 5) (N := some 36) (v := ?_) (a' := ?_) #[true, true, true, true, true, true, false, false, false, false] rfl rfl (any_of HT_.out (by kernel_rfl)) (fun _ _ _ h => h) (Or.inl ⟨by rfl, ?_⟩) ?_ ?_; rotate_left; (focus intro w'; go_simp; with_reducible rfl); rotate_left; (focus simp only [pt, i64_w, i32_w]; rfl)
                refine one_ (i := 6) (N := some 37) #[true, true, true, true, true, true, true, false, false, false] rfl rfl (one_of HT_.out (by kernel_rfl)) (by decide) (fun K hK => ?_)
                refine value_ (w1 := ?_) (v := ?_) (by rfl) rfl ?_ ?_
                rotate_left 2
                · go_simp
                  constructor
                  · rfl
                  · rfl
                refine hK.out _ _ ⟨(blk_cell (blk_alloc BK123.out _) 0).trans rfl, (blk_cell (blk_alloc BK123.out _) 1).trans rfl⟩ (fun hHeld => ?_)
                clear hK K
                refine norm_ (a' := ?_) ?_ ?_
                rotate_left
                · show Act.put _ (some 37) _ = _
                  simp only [Act.put, List.setIfInBounds_toArray, List.set_cons_zero, List.set_cons_succ, i64_w, i32_w]
                  rfl
                refine one_ (i := 7) (N := some 38) #[true, true, true, true, true, true, true, true, false, false] rfl rfl (one_of HT_.out (by kernel_rfl)) (by decide) (fun K hK => ?_)
                refine Kd.R_append_step k90 w.heap.size (by rfl) (.tmp 32) (.tmp 37) 23 90 (.agg #[(.string ⟨#[]⟩), (.int .i64 0)]) 24 rfl Try.underlying23 info90 rfl (by decide) (by omega) u124001 x124001_2 (⟨t139, t143⟩ : S90) [.string t139, .int .i64 t143] (fun _ => True) (fun _ => False) rfl rfl ?aP (fun _ hk => hk.elim) ?aF ?aO (Below.refl _ _) ?aS ?aL ?_
                (case aP => exact k90_mkM _ _ _ (⟨t139, t143⟩ : S90))
                (case aF => exact (fun _ _ => trivial))
                (case aO => exact (pR HO_124001))
                (case aS => exact (keep_size (w := w) (g := g) (row := none) (by repeat (first | (with_reducible first | exact HK.out | apply KeepBut.set_ | apply keep_drewN | apply keep_drew | apply keep_alloc | refine keep_far ?_ GW116.out _ | refine keep_far ?_ GW123.out _) | exact HK.out))))
                (case aL => have := LMc28.out; omega)
                intro v148 w32 ho hb hg hat
                rw [← Ny147.out] at ho
                have n0_ := Aside0.mk (Kd.R_over' (pR HO_124000) (Kd.R_typed (pR HO_124001)) (by decide) hg)
                have n1_ := Aside0.mk (blk_grown (g := gb116) (o := .cells #[.slice none 0 0, .slice none 0 0] 25 (0, 0)) (kB BK116) hg (Kd.R_ne HO_124001.out BK116.out (by decide)))
                have n2_ := Aside0.mk (blk_grown (g := gb123) (o := .cells #[u124000, u124001] 25 (0, 0)) (kB BK123) hg (Kd.R_ne HO_124001.out BK123.out (by decide)))
                have n3_ := Aside0.mk (IsS60.grown (by repeat (first | (with_reducible first | exact HI0.out | apply IsS60.alloc | apply IsS60.drewN | apply IsS60.drew | apply IsS60.set_0 | apply IsS60.set_1 | apply IsS60.set_2 | refine IsS60.far ?_ NB0_116.out _ | refine IsS60.far ?_ NB0_123.out _) | exact HI0.out)) hg (IsS60.own_ne HI0.out HO_124001.out (by decide)))
                have n4_ := Aside0.mk (below_weaken (by repeat (first | (with_reducible first | exact HB.out | apply below_alloc | apply pw_below_drewN | apply below_drew1 | refine below_set ?_ (IsS60.ge HI0.out) | refine below_set ?_ GE116.out | refine below_set ?_ GE123.out) | exact HB.out)) HL.out hb)
                have n5_ := Aside0.mk (KeepBut.trans (by repeat (first | (with_reducible first | exact HK.out | apply KeepBut.set_ | apply keep_drewN | apply keep_drew | apply keep_alloc | refine keep_far ?_ GW116.out _ | refine keep_far ?_ GW123.out _) | exact HK.out)) (KeepBut.of_grown hg g) (Kd.R_base2 HO_124001.out))
                have n6_ := Aside0.mk (ho)
                clear HO_124000
                clear BK116
                clear BK123
                clear HI0
                clear HB
                clear HK
                clear HO_124001
                have HO_124000 := n0_
                have BK116 := n1_
                have BK123 := n2_
                have HI0 := n3_
                have HB := n4_
                have HK := n5_
                have HO149 := n6_
                clear n0_ n1_ n2_ n3_ n4_ n5_ n6_
                clear ho hb hg hat
                obtain ⟨Ao33, co33, eo33⟩ := Kd.R_slice HO149.out
                (first | subst eo33 | (injection eo33 with f1_ f2_ f3_; have f4_ := f1_.symm; have f5_ := f3_.symm; clear f1_ f2_ f3_; subst f4_; subst f5_))
                refine hK.out _ _ ⟨(blk_cell BK123.out 0).trans rfl, (blk_cell BK123.out 1).trans rfl⟩ (fun hHeld => ?_)
                clear hK K
                refine norm_ (a' := ?_) ?_ ?_
                rotate_left
                · show Act.put _ (some 38) _ = _
                  simp only [Act.put, List.setIfInBounds_toArray, List.set_cons_zero, List.set_cons_succ, i64_w, i32_w]
                  rfl
                refine pure_ (i := 8) (N := some 39) (v := ?_) (a' := ?_) #[true, true, true, true, true, true, true, true, true, false] rfl rfl (any_of HT_.out (by kernel_rfl)) (fun _ _ _ h => h) (Or.inl ⟨by rfl, ?_⟩) ?_ ?_; rotate_left; (focus intro w'; go_simp; with_reducible rfl); rotate_left; (focus simp only [pt, i64_w, i32_w]; rfl)
                refine last_ (i := 9) (N := none) #[true, true, true, true, true, true, true, true, true, true] rfl rfl (one_of HT_.out (by kernel_rfl)) (by decide) (fun K hK => ?_)
                have hs34 : w32.cell? ⟨gb123, 1, none⟩ = some (u124001) := (blk_cell BK123.out 1).trans rfl
                have hfs34 := blk_frozen BK123.out 1
                have hns34_0 := NB116_123.out
                have hms34_0 := NB123_116.out
                refine skip_ (w1 := ?_) (by rfl) rfl ?_ ?_
                rotate_left
                · go_simp
                  rfl
                refine hK.out _ _ ?_
                clear hK K
                refine done_ (done_of HT_.out (by kernel_rfl)) ?_
                try go_wp2
                go_roundg k2
                case measure => have := HK1.out; have := HK2.out; omega
                case rel => exact ⟨(wrap64 (x5_2 - 1)), (t144), (t145), (t146), (y147), (.slice Ao33 y147.length co33), vE, H', ⟨by have := HK1.out; have := HK2.out; omega⟩, ⟨by (with_reducible repeat (first | apply Kd.R_alloc | apply Kd.R_drewN | apply Kd.R_drew)); exact Kd.R_mono (Kd.R_far (p := ⟨gb123, 1, none⟩) (Kd.R_types HO_124000.out BK123.out (by decide)) (fun _ hk => hk.2) (.slice Ao33 y147.length co33)) (fun _ hk => trivial)⟩, ⟨by (with_reducible repeat (first | apply Kd.R_alloc | apply Kd.R_drewN | apply Kd.R_drew)); exact Kd.R_mono (Kd.R_far (p := ⟨gb123, 1, none⟩) (Kd.R_types HO149.out BK123.out (by decide)) (fun _ hk => hk.2) (.slice Ao33 y147.length co33)) (fun _ hk => trivial)⟩, ⟨by (with_reducible repeat (first | refine blk_drewN ?_ _ | refine blk_drew ?_ | refine blk_alloc ?_ _)); refine blk_far ?_ NB116_123.out _; (with_reducible repeat (first | refine blk_drewN ?_ _ | refine blk_drew ?_ | refine blk_alloc ?_ _)); exact BK116.out⟩, ⟨by (with_reducible repeat (first | refine blk_drewN ?_ _ | refine blk_drew ?_ | refine blk_alloc ?_ _)); refine blk_put (cs := #[u124000, u124001]) ?_ 1 _ rfl; (with_reducible repeat (first | refine blk_drewN ?_ _ | refine blk_drew ?_ | refine blk_alloc ?_ _)); exact BK123.out⟩, ⟨by repeat (first | (with_reducible first | exact HI0.out | apply IsS60.alloc | apply IsS60.drewN | apply IsS60.drew | apply IsS60.set_0 | apply IsS60.set_1 | apply IsS60.set_2 | refine IsS60.far ?_ NB0_116.out _ | refine IsS60.far ?_ NB0_123.out _) | exact HI0.out)⟩, ⟨by repeat (first | (with_reducible first | exact HK.out | apply KeepBut.set_ | apply keep_drewN | apply keep_drew | apply keep_alloc | refine keep_far ?_ GW116.out _ | refine keep_far ?_ GW123.out _) | exact HK.out)⟩, ⟨by repeat (first | (with_reducible first | exact HB.out | apply below_alloc | apply pw_below_drewN | apply below_drew1 | refine below_set ?_ (IsS60.ge HI0.out) | refine below_set ?_ GE116.out | refine below_set ?_ GE123.out) | exact HB.out)⟩⟩
              · rw [if_neg c28] at H
                exact absurd H (by simp)
            · rw [if_neg c25] at H
              have c25b0 : decide (0 < x5_2) = false := decide_eq_false c25
              clear c25
              simp only [Option.some.injEq, Prod.mk.injEq] at H
              obtain ⟨rfl, rfl, rfl, rfl, rfl⟩ := H
              have hnb35 := NB123_116.out
              have hnc35 := NB116_123.out
              have hnb36 := NB123_0.out
              have hnc36 := NB0_123.out
              have hcz37_0 : wr.cell? ⟨gb123, 0, none⟩ = some (u124000) := (blk_cell BK123.out 0).trans rfl
              have hcz37_1 : wr.cell? ⟨gb123, 1, none⟩ = some (u124001) := (blk_cell BK123.out 1).trans rfl
              have hfz37_0 := blk_frozen BK123.out 0
              have hfz37_1 := blk_frozen BK123.out 1
              obtain ⟨Ao38, co38, eo38⟩ := Kd.R_slice HO_124000.out
              subst eo38
              have hnb39 := NB116_0.out
              have hnc39 := NB0_116.out
              have hcz40_0 : wr.cell? ⟨gb116, 0, none⟩ = some (.slice none 0 0) := (blk_cell BK116.out 0).trans rfl
              have hcz40_1 : wr.cell? ⟨gb116, 1, none⟩ = some (.slice none 0 0) := (blk_cell BK116.out 1).trans rfl
              have hfz40_0 := blk_frozen BK116.out 0
              have hfz40_1 := blk_frozen BK116.out 1
              obtain ⟨Ao41, co41, eo41⟩ := Kd.R_slice HO_124001.out
              subst eo41
              go_wp2
              refine bodyPost_ret (results_cell_row rfl _ _ gb116 25 #[.slice Ao38 x124000_1.length co38, .slice Ao41 x124001_2.length co41] (0, 0) _ rfl (by (with_reducible repeat (first | refine blk_drewN ?_ _ | refine blk_drew ?_ | refine blk_alloc ?_ _)); refine blk_put (cs := #[.slice Ao38 x124000_1.length co38, .slice none 0 0]) ?_ 1 _ rfl; (with_reducible repeat (first | refine blk_drewN ?_ _ | refine blk_drew ?_ | refine blk_alloc ?_ _)); refine blk_put (cs := #[.slice none 0 0, .slice none 0 0]) ?_ 0 _ rfl; (with_reducible repeat (first | refine blk_drewN ?_ _ | refine blk_drew ?_ | refine blk_alloc ?_ _)); exact BK116.out) Try.underlying25 rfl (by kernel_rfl)) rfl ?_
              exact ⟨_, _, by first | rfl | (simp [errW_none, errW_some] <;> rfl) | (simp [*, errW_none, errW_some] <;> rfl), by (with_reducible repeat (first | apply Kd.R_alloc | apply Kd.R_drewN | apply Kd.R_drew)); exact Kd.R_mono (Kd.R_far (p := ⟨gb116, 1, none⟩) (Kd.R_far (p := ⟨gb116, 0, none⟩) (Kd.R_types HO_124000.out BK116.out (by decide)) (fun _ hk => hk.2) (.slice Ao38 x124000_1.length co38)) (fun _ hk => hk.2) (.slice Ao41 x124001_2.length co41)) (fun _ hk => trivial), by (with_reducible repeat (first | apply Kd.R_alloc | apply Kd.R_drewN | apply Kd.R_drew)); exact Kd.R_mono (Kd.R_far (p := ⟨gb116, 1, none⟩) (Kd.R_far (p := ⟨gb116, 0, none⟩) (Kd.R_types HO_124001.out BK116.out (by decide)) (fun _ hk => hk.2) (.slice Ao38 x124000_1.length co38)) (fun _ hk => hk.2) (.slice Ao41 x124001_2.length co41)) (fun _ hk => trivial), by repeat (first | (with_reducible first | exact HI0.out | apply IsS60.alloc | apply IsS60.drewN | apply IsS60.drew | apply IsS60.set_0 | apply IsS60.set_1 | apply IsS60.set_2 | refine IsS60.far ?_ NB0_116.out _ | refine IsS60.far ?_ NB0_123.out _) | exact HI0.out), by repeat (first | (with_reducible first | exact HB.out | apply below_alloc | apply pw_below_drewN | apply below_drew1 | refine below_set ?_ (IsS60.ge HI0.out) | refine below_set ?_ GE116.out | refine below_set ?_ GE123.out) | exact HB.out), by repeat (first | (with_reducible first | exact HK.out | apply KeepBut.set_ | apply keep_drewN | apply keep_drew | apply keep_alloc | refine keep_far ?_ GW116.out _ | refine keep_far ?_ GW123.out _) | exact HK.out)⟩
end Go.Proofs.Ytjkjnfooaglnkaa.Q
end

section
namespace Go.Proofs.Ytjkjnfooaglnkaa.Q
open Go.RowKit Go.Proofs.YtjkjnfooaglnkaaW.PrintWords Go.Proofs.YtjkjnfooaglnkaaW.PrintLast Go.Proofs.YtjkjnfooaglnkaaW.PrintMore
attribute [local go_sem] max2_int min2_int max_two min_two max_three min_three max_four min_four   -- for this text's walks alone
set_option linter.unusedVariables false
set_option linter.unusedSimpArgs false
attribute [local go_sem] bin_leq bin_gtr bin_geq
def spec_l01In.f (a0 : Int) (a1 : Int) (a2 : Int) : Option (Bool) := if a0 ≥ a1 then (some (decide (a0 ≤ a2))) else (some false)
set_option maxHeartbeats 8000000 in
set_option maxRecDepth 100000 in
theorem spec_l01In.calls (a0 : Int) (a1 : Int) (a2 : Int) (r : Bool) (w : World) (h : spec_l01In.f a0 a1 a2 = some r) :
    Calls Try.prog 68 #[.int .i64 a0, .int .i64 a1, .int .i64 a2] w fun e w' => e = .returned (.bool r) ∧ Drawn0 w w' := by
  have H : (if a0 ≥ a1 then (some (decide (a0 ≤ a2))) else (some false)) = some r := h
  clear h
  by_cases c4 : a0 ≥ a1
  · rw [if_pos c4] at H
    have c4b0 : decide (a1 ≤ a0) = true := decide_eq_true c4
    clear c4
    obtain rfl := Option.some.inj H
    go_enter Try.func68, Try.ntmps68
    go_wp2
    go_ret
    exact ⟨by first | rfl | (simp; done) | (simp [*]; done), by repeat (first | exact Drawn0.refl _ | apply Drawn0.step)⟩
  · rw [if_neg c4] at H
    have c4b0 : decide (a1 ≤ a0) = false := decide_eq_false c4
    clear c4
    obtain rfl := Option.some.inj H
    go_enter Try.func68, Try.ntmps68
    go_wp2
    go_ret
    exact ⟨by first | rfl | (simp; done) | (simp [*]; done), by repeat (first | exact Drawn0.refl _ | apply Drawn0.step)⟩
end Go.Proofs.Ytjkjnfooaglnkaa.Q
end

section
namespace Go.Proofs.Ytjkjnfooaglnkaa.Q
open Go.RowKit Go.Proofs.YtjkjnfooaglnkaaW.PrintWords Go.Proofs.YtjkjnfooaglnkaaW.PrintLast Go.Proofs.YtjkjnfooaglnkaaW.PrintMore
attribute [local go_sem] max2_int min2_int max_two min_two max_three min_three max_four min_four   -- for this text's walks alone
set_option linter.unusedVariables false
set_option linter.unusedSimpArgs false
attribute [local go_sem] bin_leq bin_gtr bin_geq
def impl_isLetter.f (a0 : Int) : Option (Bool) := if a0 ≥ 97 then (if a0 ≤ 122 then (some true) else (if a0 ≥ 65 then (if a0 ≤ 90 then (some true) else (some (a0 == 95))) else (some (a0 == 95)))) else (if a0 ≥ 65 then (if a0 ≤ 90 then (some true) else (some (a0 == 95))) else (some (a0 == 95)))
set_option maxHeartbeats 8000000 in
set_option maxRecDepth 100000 in
theorem impl_isLetter.calls (a0 : Int) (r : Bool) (w : World) (h : impl_isLetter.f a0 = some r) :
    Calls Try.prog 103 #[.int .u8 a0] w fun e w' => e = .returned (.bool r) ∧ Drawn0 w w' := by
  have H : (if a0 ≥ 97 then (if a0 ≤ 122 then (some true) else (if a0 ≥ 65 then (if a0 ≤ 90 then (some true) else (some (a0 == 95))) else (some (a0 == 95)))) else (if a0 ≥ 65 then (if a0 ≤ 90 then (some true) else (some (a0 == 95))) else (some (a0 == 95)))) = some r := h
  clear h
  by_cases c2 : a0 ≥ 97
  · rw [if_pos c2] at H
    have c2b0 : decide (97 ≤ a0) = true := decide_eq_true c2
    clear c2
    by_cases c3 : a0 ≤ 122
    · rw [if_pos c3] at H
      have c3b0 : decide (a0 ≤ 122) = true := decide_eq_true c3
      clear c3
      obtain rfl := Option.some.inj H
      go_enter Try.func103, Try.ntmps103
      go_wp2
      go_ret
      exact ⟨by first | rfl | (simp; done) | (simp [*]; done), by repeat (first | exact Drawn0.refl _ | apply Drawn0.step)⟩
    · rw [if_neg c3] at H
      have c3b0 : decide (a0 ≤ 122) = false := decide_eq_false c3
      clear c3
      by_cases c4 : a0 ≥ 65
      · rw [if_pos c4] at H
        have c4b0 : decide (65 ≤ a0) = true := decide_eq_true c4
        clear c4
        by_cases c5 : a0 ≤ 90
        · rw [if_pos c5] at H
          have c5b0 : decide (a0 ≤ 90) = true := decide_eq_true c5
          clear c5
          obtain rfl := Option.some.inj H
          go_enter Try.func103, Try.ntmps103
          go_wp2
          go_ret
          exact ⟨by first | rfl | (simp; done) | (simp [*]; done), by repeat (first | exact Drawn0.refl _ | apply Drawn0.step)⟩
        · rw [if_neg c5] at H
          have c5b0 : decide (a0 ≤ 90) = false := decide_eq_false c5
          clear c5
          obtain rfl := Option.some.inj H
          go_enter Try.func103, Try.ntmps103
          go_wp2
          go_ret
          exact ⟨by first | rfl | (simp; done) | (simp [*]; done), by repeat (first | exact Drawn0.refl _ | apply Drawn0.step)⟩
      · rw [if_neg c4] at H
        have c4b0 : decide (65 ≤ a0) = false := decide_eq_false c4
        clear c4
        obtain rfl := Option.some.inj H
        go_enter Try.func103, Try.ntmps103
        go_wp2
        go_ret
        exact ⟨by first | rfl | (simp; done) | (simp [*]; done), by repeat (first | exact Drawn0.refl _ | apply Drawn0.step)⟩
  · rw [if_neg c2] at H
    have c2b0 : decide (97 ≤ a0) = false := decide_eq_false c2
    clear c2
    by_cases c6 : a0 ≥ 65
    · rw [if_pos c6] at H
      have c6b0 : decide (65 ≤ a0) = true := decide_eq_true c6
      clear c6
      by_cases c7 : a0 ≤ 90
      · rw [if_pos c7] at H
        have c7b0 : decide (a0 ≤ 90) = true := decide_eq_true c7
        clear c7
        obtain rfl := Option.some.inj H
        go_enter Try.func103, Try.ntmps103
        go_wp2
        go_ret
        exact ⟨by first | rfl | (simp; done) | (simp [*]; done), by repeat (first | exact Drawn0.refl _ | apply Drawn0.step)⟩
      · rw [if_neg c7] at H
        have c7b0 : decide (a0 ≤ 90) = false := decide_eq_false c7
        clear c7
        obtain rfl := Option.some.inj H
        go_enter Try.func103, Try.ntmps103
        go_wp2
        go_ret
        exact ⟨by first | rfl | (simp; done) | (simp [*]; done), by repeat (first | exact Drawn0.refl _ | apply Drawn0.step)⟩
    · rw [if_neg c6] at H
      have c6b0 : decide (65 ≤ a0) = false := decide_eq_false c6
      clear c6
      obtain rfl := Option.some.inj H
      go_enter Try.func103, Try.ntmps103
      go_wp2
      go_ret
      exact ⟨by first | rfl | (simp; done) | (simp [*]; done), by repeat (first | exact Drawn0.refl _ | apply Drawn0.step)⟩
end Go.Proofs.Ytjkjnfooaglnkaa.Q
end

section
namespace Go.Proofs.Ytjkjnfooaglnkaa.Q
open Go.RowKit Go.Proofs.YtjkjnfooaglnkaaW.PrintWords Go.Proofs.YtjkjnfooaglnkaaW.PrintLast Go.Proofs.YtjkjnfooaglnkaaW.PrintMore
attribute [local go_sem] max2_int min2_int max_two min_two max_three min_three max_four min_four   -- for this text's walks alone
set_option linter.unusedVariables false
set_option linter.unusedSimpArgs false
attribute [local go_sem] bin_leq bin_gtr bin_geq
def impl_isDigit.f (a0 : Int) : Option (Bool) := if a0 ≥ 48 then (some (decide (a0 ≤ 57))) else (some false)
set_option maxHeartbeats 8000000 in
set_option maxRecDepth 100000 in
theorem impl_isDigit.calls (a0 : Int) (r : Bool) (w : World) (h : impl_isDigit.f a0 = some r) :
    Calls Try.prog 106 #[.int .u8 a0] w fun e w' => e = .returned (.bool r) ∧ Drawn0 w w' := by
  have H : (if a0 ≥ 48 then (some (decide (a0 ≤ 57))) else (some false)) = some r := h
  clear h
  by_cases c2 : a0 ≥ 48
  · rw [if_pos c2] at H
    have c2b0 : decide (48 ≤ a0) = true := decide_eq_true c2
    clear c2
    obtain rfl := Option.some.inj H
    go_enter Try.func106, Try.ntmps106
    go_wp2
    go_ret
    exact ⟨by first | rfl | (simp; done) | (simp [*]; done), by repeat (first | exact Drawn0.refl _ | apply Drawn0.step)⟩
  · rw [if_neg c2] at H
    have c2b0 : decide (48 ≤ a0) = false := decide_eq_false c2
    clear c2
    obtain rfl := Option.some.inj H
    go_enter Try.func106, Try.ntmps106
    go_wp2
    go_ret
    exact ⟨by first | rfl | (simp; done) | (simp [*]; done), by repeat (first | exact Drawn0.refl _ | apply Drawn0.step)⟩
end Go.Proofs.Ytjkjnfooaglnkaa.Q
end

section
namespace Go.Proofs.Ytjkjnfooaglnkaa.Q
open Go.RowKit Go.Proofs.YtjkjnfooaglnkaaW.PrintWords Go.Proofs.YtjkjnfooaglnkaaW.PrintLast Go.Proofs.YtjkjnfooaglnkaaW.PrintMore
attribute [local go_sem] max2_int min2_int max_two min_two max_three min_three max_four min_four   -- for this text's walks alone
set_option linter.unusedVariables false
set_option linter.unusedSimpArgs false
attribute [local go_sem] bin_leq bin_gtr bin_geq
def letB (c : Int) : Bool := (decide (97 ≤ c) && decide (c ≤ 122)) || (decide (65 ≤ c) && decide (c ≤ 90)) || c == 95
def digB (c : Int) : Bool := decide (48 ≤ c) && decide (c ≤ 57)
def bytesL (s : ByteArray) : List Int := s.data.toList.map fun b => (b.toNat : Int)
def nameB (s : ByteArray) : Bool := decide (1 ≤ s.size) && decide (s.size ≤ 12) && letB (bt s 0) && (bytesL s).all (fun c => letB c || digB c)
theorem letB_f (c : Int) : impl_isLetter.f c = some (letB c) := by
  unfold impl_isLetter.f letB
  by_cases h1 : 97 ≤ c <;> by_cases h2 : c ≤ 122 <;> by_cases h3 : 65 ≤ c <;> by_cases h4 : c ≤ 90 <;> simp [h1, h2, h3, h4]
theorem digB_f (c : Int) : impl_isDigit.f c = some (digB c) := by
  unfold impl_isDigit.f digB
  by_cases h1 : 48 ≤ c <;> by_cases h2 : c ≤ 57 <;> simp [h1, h2]
theorem bytesL_length (s : ByteArray) : (bytesL s).length = s.size := by simp [bytesL]
theorem bytesL_get (s : ByteArray) (j : Nat) : (bytesL s).getD j 0 = ((s.data.toList.getD j 0).toNat : Int) := by
  simp only [bytesL, List.getD_eq_getElem?_getD, List.getElem?_map]
  cases s.data.toList[j]? <;> simp
theorem bytesL_cells (w : World) (s : ByteArray) (hs : s.size ≤ 9223372036854775807) : Kd.C (Kd.int .u8) (Go.Lib.bytesWorld w 5 s) (some ⟨w.heap.size, 0, none⟩) (bytesL s).length (bytesL s) := by
  refine Kd.C_of_reads (d := (0 : Int)) ⟨rfl, by rw [bytesL_length]; exact hs, fun _ => ⟨_, rfl, fun j hj => ?_⟩⟩
  rw [bytesL_length] at hj
  rw [add_plain, Go.Lib.bytesWorld_cell w 5 s j hj, bytesL_get]
theorem below_bytes (w : World) (s : ByteArray) (e : TypeId) : Below w.heap.size w (Go.Lib.bytesWorld w e s) := by
  refine ⟨rfl, rfl, rfl, ?_, fun i hi => Go.Lib.bytesWorld_at_old w e s i hi⟩
  rw [Go.Lib.bytesWorld_size]
  omega
end Go.Proofs.Ytjkjnfooaglnkaa.Q
end

section
namespace Go.Proofs.Ytjkjnfooaglnkaa.Q
open Go.RowKit Go.Proofs.YtjkjnfooaglnkaaW.PrintWords Go.Proofs.YtjkjnfooaglnkaaW.PrintLast Go.Proofs.YtjkjnfooaglnkaaW.PrintMore
attribute [local go_sem] max2_int min2_int max_two min_two max_three min_three max_four min_four   -- for this text's walks alone
set_option linter.unusedVariables false
set_option linter.unusedSimpArgs false
attribute [local go_sem] bin_leq bin_gtr bin_geq
def spec_l00Letter.f (a0 : Int) : Option (Bool) := if a0 ≥ 97 then (if a0 ≤ 122 then (some true) else (if a0 ≥ 65 then (if a0 ≤ 90 then (some true) else (some (a0 == 95))) else (some (a0 == 95)))) else (if a0 ≥ 65 then (if a0 ≤ 90 then (some true) else (some (a0 == 95))) else (some (a0 == 95)))
set_option maxHeartbeats 8000000 in
set_option maxRecDepth 100000 in
theorem spec_l00Letter.calls (a0 : Int) (r : Bool) (w : World) (h : spec_l00Letter.f a0 = some r) :
    Calls Try.prog 108 #[.int .u8 a0] w fun e w' => e = .returned (.bool r) ∧ Drawn0 w w' := by
  have H : (if a0 ≥ 97 then (if a0 ≤ 122 then (some true) else (if a0 ≥ 65 then (if a0 ≤ 90 then (some true) else (some (a0 == 95))) else (some (a0 == 95)))) else (if a0 ≥ 65 then (if a0 ≤ 90 then (some true) else (some (a0 == 95))) else (some (a0 == 95)))) = some r := h
  clear h
  by_cases c2 : a0 ≥ 97
  · rw [if_pos c2] at H
    have c2b0 : decide (97 ≤ a0) = true := decide_eq_true c2
    clear c2
    by_cases c3 : a0 ≤ 122
    · rw [if_pos c3] at H
      have c3b0 : decide (a0 ≤ 122) = true := decide_eq_true c3
      clear c3
      obtain rfl := Option.some.inj H
      go_enter Try.func108, Try.ntmps108
      go_wp2
      go_ret
      exact ⟨by first | rfl | (simp; done) | (simp [*]; done), by repeat (first | exact Drawn0.refl _ | apply Drawn0.step)⟩
    · rw [if_neg c3] at H
      have c3b0 : decide (a0 ≤ 122) = false := decide_eq_false c3
      clear c3
      by_cases c4 : a0 ≥ 65
      · rw [if_pos c4] at H
        have c4b0 : decide (65 ≤ a0) = true := decide_eq_true c4
        clear c4
        by_cases c5 : a0 ≤ 90
        · rw [if_pos c5] at H
          have c5b0 : decide (a0 ≤ 90) = true := decide_eq_true c5
          clear c5
          obtain rfl := Option.some.inj H
          go_enter Try.func108, Try.ntmps108
          go_wp2
          go_ret
          exact ⟨by first | rfl | (simp; done) | (simp [*]; done), by repeat (first | exact Drawn0.refl _ | apply Drawn0.step)⟩
        · rw [if_neg c5] at H
          have c5b0 : decide (a0 ≤ 90) = false := decide_eq_false c5
          clear c5
          obtain rfl := Option.some.inj H
          go_enter Try.func108, Try.ntmps108
          go_wp2
          go_ret
          exact ⟨by first | rfl | (simp; done) | (simp [*]; done), by repeat (first | exact Drawn0.refl _ | apply Drawn0.step)⟩
      · rw [if_neg c4] at H
        have c4b0 : decide (65 ≤ a0) = false := decide_eq_false c4
        clear c4
        obtain rfl := Option.some.inj H
        go_enter Try.func108, Try.ntmps108
        go_wp2
        go_ret
        exact ⟨by first | rfl | (simp; done) | (simp [*]; done), by repeat (first | exact Drawn0.refl _ | apply Drawn0.step)⟩
  · rw [if_neg c2] at H
    have c2b0 : decide (97 ≤ a0) = false := decide_eq_false c2
    clear c2
    by_cases c6 : a0 ≥ 65
    · rw [if_pos c6] at H
      have c6b0 : decide (65 ≤ a0) = true := decide_eq_true c6
      clear c6
      by_cases c7 : a0 ≤ 90
      · rw [if_pos c7] at H
        have c7b0 : decide (a0 ≤ 90) = true := decide_eq_true c7
        clear c7
        obtain rfl := Option.some.inj H
        go_enter Try.func108, Try.ntmps108
        go_wp2
        go_ret
        exact ⟨by first | rfl | (simp; done) | (simp [*]; done), by repeat (first | exact Drawn0.refl _ | apply Drawn0.step)⟩
      · rw [if_neg c7] at H
        have c7b0 : decide (a0 ≤ 90) = false := decide_eq_false c7
        clear c7
        obtain rfl := Option.some.inj H
        go_enter Try.func108, Try.ntmps108
        go_wp2
        go_ret
        exact ⟨by first | rfl | (simp; done) | (simp [*]; done), by repeat (first | exact Drawn0.refl _ | apply Drawn0.step)⟩
    · rw [if_neg c6] at H
      have c6b0 : decide (65 ≤ a0) = false := decide_eq_false c6
      clear c6
      obtain rfl := Option.some.inj H
      go_enter Try.func108, Try.ntmps108
      go_wp2
      go_ret
      exact ⟨by first | rfl | (simp; done) | (simp [*]; done), by repeat (first | exact Drawn0.refl _ | apply Drawn0.step)⟩
end Go.Proofs.Ytjkjnfooaglnkaa.Q
end

section
namespace Go.Proofs.Ytjkjnfooaglnkaa.Q
open Go.RowKit Go.Proofs.YtjkjnfooaglnkaaW.PrintWords Go.Proofs.YtjkjnfooaglnkaaW.PrintLast Go.Proofs.YtjkjnfooaglnkaaW.PrintMore
attribute [local go_sem] max2_int min2_int max_two min_two max_three min_three max_four min_four   -- for this text's walks alone
set_option linter.unusedVariables false
set_option linter.unusedSimpArgs false
attribute [local go_sem] bin_leq bin_gtr bin_geq
def spec_l00Digit.f (a0 : Int) : Option (Bool) := if a0 ≥ 48 then (some (decide (a0 ≤ 57))) else (some false)
set_option maxHeartbeats 8000000 in
set_option maxRecDepth 100000 in
theorem spec_l00Digit.calls (a0 : Int) (r : Bool) (w : World) (h : spec_l00Digit.f a0 = some r) :
    Calls Try.prog 109 #[.int .u8 a0] w fun e w' => e = .returned (.bool r) ∧ Drawn0 w w' := by
  have H : (if a0 ≥ 48 then (some (decide (a0 ≤ 57))) else (some false)) = some r := h
  clear h
  by_cases c2 : a0 ≥ 48
  · rw [if_pos c2] at H
    have c2b0 : decide (48 ≤ a0) = true := decide_eq_true c2
    clear c2
    obtain rfl := Option.some.inj H
    go_enter Try.func109, Try.ntmps109
    go_wp2
    go_ret
    exact ⟨by first | rfl | (simp; done) | (simp [*]; done), by repeat (first | exact Drawn0.refl _ | apply Drawn0.step)⟩
  · rw [if_neg c2] at H
    have c2b0 : decide (48 ≤ a0) = false := decide_eq_false c2
    clear c2
    obtain rfl := Option.some.inj H
    go_enter Try.func109, Try.ntmps109
    go_wp2
    go_ret
    exact ⟨by first | rfl | (simp; done) | (simp [*]; done), by repeat (first | exact Drawn0.refl _ | apply Drawn0.step)⟩
end Go.Proofs.Ytjkjnfooaglnkaa.Q
end

section
namespace Go.Proofs.Ytjkjnfooaglnkaa.Q
open Go.RowKit Go.Proofs.YtjkjnfooaglnkaaW.PrintWords Go.Proofs.YtjkjnfooaglnkaaW.PrintLast Go.Proofs.YtjkjnfooaglnkaaW.PrintMore
attribute [local go_sem] max2_int min2_int max_two min_two max_three min_three max_four min_four   -- for this text's walks alone
set_option linter.unusedVariables false
set_option linter.unusedSimpArgs false
attribute [local go_sem] bin_leq bin_gtr bin_geq
mutual
def spec_l00Word.j0 : Nat → ByteArray → Bool → Option (Bool)
  | 0, _, _ => none
  | k + 1, x0, x17 => if x17 = true then (some false) else (spec_l00Word.l0 k x0 1)
def spec_l00Word.l0 : Nat → ByteArray → Int → Option (Bool)
  | 0, _, _ => none
  | k + 1, x0, x3 => if x3 < (x0.size : Int) then (if 0 ≤ x3 then ((spec_l00Letter.f (bt x0 x3)).bind fun t151 => (if t151 = true then (spec_l00Word.l0 k x0 (wrap64 (x3 + 1))) else ((spec_l00Digit.f (bt x0 x3)).bind fun t152 => (if t152 = true then (spec_l00Word.l0 k x0 (wrap64 (x3 + 1))) else (some false))))) else (none)) else (some true)
end
def spec_l00Word.f (k : Nat) (a0 : ByteArray) : Option (Bool) := if (a0.size : Int) < 1 then (spec_l00Word.j0 k a0 true) else (if (a0.size : Int) > 12 then (spec_l00Word.j0 k a0 true) else (if 0 < (a0.size : Int) then ((spec_l00Letter.f (bt a0 0)).bind fun t150 => (spec_l00Word.j0 k a0 (!t150))) else (none)))
set_option maxHeartbeats 8000000 in
set_option maxRecDepth 100000 in
theorem spec_l00Word.calls (k : Nat) (a0 : ByteArray) (r : Bool) (w : World) (h : spec_l00Word.f k a0 = some r) :
    Calls Try.prog 89 #[.string a0] w fun e w' => e = .returned (.bool r) ∧ Drawn0 w w' := by
  have H : (if (a0.size : Int) < 1 then (spec_l00Word.j0 k a0 true) else (if (a0.size : Int) > 12 then (spec_l00Word.j0 k a0 true) else (if 0 < (a0.size : Int) then ((spec_l00Letter.f (bt a0 0)).bind fun t150 => (spec_l00Word.j0 k a0 (!t150))) else (none)))) = some r := h
  clear h
  have HC2 := Aside0.mk H
  clear H
  go_enter Try.func89, Try.ntmps89
  go_upto_region 1 with (fail)
  go_cut [17] (fun v17 wc => ∃ (kq : Nat) (x17_1 : Bool), v17 = .bool x17_1 ∧ Aside0 (spec_l00Word.j0 kq a0 x17_1 = some r) ∧ Aside0 (kq ≤ k) ∧ Drawn0 w wc)
  case first =>
    have H := HC2.out
    clear HC2
    by_cases c3 : (a0.size : Int) < 1
    · rw [if_pos c3] at H
      have c3b0 : decide ((a0.size : Int) < 1) = true := decide_eq_true c3
      have c3b1 : decide (a0.size < 1) = true := decide_eq_true (by omega)
      clear c3
      (first | rw [c3b0] | (simp only [i64_w, i32_w]; rw [c3b0]) | skip)
      have H' := Aside0.mk H
      clear H
      go_wp2
      go_meet
      case rel => exact ⟨_, (true), vE, H', ⟨by first | omega | exact Nat.le_refl _⟩, by repeat (first | exact Drawn0.refl _ | apply Drawn0.step)⟩
    · rw [if_neg c3] at H
      have c3b0 : decide ((a0.size : Int) < 1) = false := decide_eq_false c3
      have c3b1 : decide (a0.size < 1) = false := decide_eq_false (by omega)
      clear c3
      (first | rw [c3b0] | (simp only [i64_w, i32_w]; rw [c3b0]) | skip)
      by_cases c4 : (a0.size : Int) > 12
      · rw [if_pos c4] at H
        have c4b0 : decide (12 < (a0.size : Int)) = true := decide_eq_true c4
        have c4b1 : decide (12 < a0.size) = true := decide_eq_true (by omega)
        clear c4
        have H' := Aside0.mk H
        clear H
        go_wp2
        go_meet
        case rel => exact ⟨_, (true), vE, H', ⟨by first | omega | exact Nat.le_refl _⟩, by repeat (first | exact Drawn0.refl _ | apply Drawn0.step)⟩
      · rw [if_neg c4] at H
        have c4b0 : decide (12 < (a0.size : Int)) = false := decide_eq_false c4
        have c4b1 : decide (12 < a0.size) = false := decide_eq_false (by omega)
        clear c4
        by_cases c5 : 0 < (a0.size : Int)
        · rw [if_pos c5] at H
          have c5b0 : decide (0 < (a0.size : Int)) = true := decide_eq_true c5
          have c5b1 : decide (0 < a0.size) = true := decide_eq_true (by omega)
          clear c5
          replace H := Option.bind_eq_some_iff.mp H
          obtain ⟨t150, A70, H⟩ := H
          replace H : (spec_l00Word.j0 k a0 (!t150)) = some r := H
          have A7 := Aside0.mk A70
          clear A70
          have H' := Aside0.mk H
          clear H
          have p6 : 0 ≤ (0 : Int) := (by omega)
          have q6 : 0 < a0.size := (by have : (0 : Int) < (a0.size : Int) := odt; omega)
          have hx6 : ∀ h : 0 < a0.size, ((a0[0]'h).toNat : Int) = bt a0 0 := bt_at a0 0
          clear p6
          have qi6 : (0 < (a0.size : Int)) = True := eq_true (odt)
          replace q6 := eq_true q6
          go_wp2_with (first | (go_at_call 108; (with_reducible refine (spec_l00Letter.calls (bt a0 0) t150 _ A7.out).mono ?_); rintro e w' ⟨rfl, ⟨nd, rfl⟩⟩))
          go_meet
          case rel => exact ⟨_, (!t150), vE, H', ⟨by first | omega | exact Nat.le_refl _⟩, by repeat (first | exact Drawn0.refl _ | apply Drawn0.step)⟩
        · rw [if_neg c5] at H
          exact absurd H (by simp)
  case rest =>
    clear HC2
    try clear p2
    try clear c3
    try clear c3b0
    try clear c3b1
    try clear c4
    try clear c4b0
    try clear c4b1
    try clear c5
    try clear c5b0
    try clear c5b1
    try clear p6
    try clear q6
    try clear hx6
    try clear qi6
    try clear p6
    try clear q6
    obtain ⟨kq, x17_1, rfl, HA, HJ1, ⟨mc1, rfl⟩⟩ := hcut
    cases kq with
    | zero => exact absurd HA.out (by simp [spec_l00Word.j0])
    | succ kj1 =>
      have H := HA.out
      clear HA
      simp only [spec_l00Word.j0] at H
      by_cases c8 : x17_1 = true
      · subst c8
        have H1 : (some false) = some r := by rw [if_pos rfl] at H; exact H
        clear H
        have H := H1
        clear H1
        obtain rfl := Option.some.inj H
        go_wp2
        go_ret
        exact ⟨by first | rfl | (simp; done) | (simp [*]; done), by repeat (first | exact Drawn0.refl _ | apply Drawn0.step)⟩
      · replace c8 := Bool.eq_false_iff.mpr c8
        subst c8
        have H1 : (spec_l00Word.l0 kj1 a0 1) = some r := by rw [if_neg (show ¬ (false = true) by decide)] at H; exact H
        clear H
        have H := H1
        clear H1
        have H' := Aside0.mk H
        clear H
        go_wp2
        go_loopg [3] kj1 (fun kq v3 w' => ∃ (x3_2 : Int), v3 = .int .i64 x3_2 ∧ Aside0 (spec_l00Word.l0 kq a0 x3_2 = some r) ∧ Aside0 (kq ≤ kj1) ∧ Drawn0 w w')
        case atStart => exact ⟨(1), vE, H', ⟨Nat.le_refl _⟩, by repeat (first | exact Drawn0.refl _ | apply Drawn0.step)⟩
        case round =>
          clear H'
          try clear c1
          try clear p2
          try clear c3
          try clear c3b0
          try clear c3b1
          try clear c4
          try clear c4b0
          try clear c4b1
          try clear c5
          try clear c5b0
          try clear c5b1
          try clear p6
          try clear q6
          try clear hx6
          try clear qi6
          try clear c8
          try clear p2
          try clear p6
          try clear q6
          obtain ⟨x3_2, rfl, HA, HK2, ⟨m2, rfl⟩⟩ := hrel
          cases gk with
          | zero => exact absurd HA.out (by simp [spec_l00Word.l0])
          | succ k2 =>
            have H := HA.out
            clear HA
            simp only [spec_l00Word.l0] at H
            by_cases c9 : x3_2 < (a0.size : Int)
            · rw [if_pos c9] at H
              have c9b0 : decide (x3_2 < (a0.size : Int)) = true := decide_eq_true c9
              clear c9
              by_cases c10 : 0 ≤ x3_2
              · rw [if_pos c10] at H
                have c10b0 : decide (0 ≤ x3_2) = true := decide_eq_true c10
                clear c10
                replace H := Option.bind_eq_some_iff.mp H
                obtain ⟨t151, A120, H⟩ := H
                replace H : (if t151 = true then (spec_l00Word.l0 k2 a0 (wrap64 (x3_2 + 1))) else ((spec_l00Digit.f (bt a0 x3_2)).bind fun t152 => (if t152 = true then (spec_l00Word.l0 k2 a0 (wrap64 (x3_2 + 1))) else (some false)))) = some r := H
                have A12 := Aside0.mk A120
                clear A120
                by_cases c13 : t151 = true
                · subst c13
                  have H1 : (spec_l00Word.l0 k2 a0 (wrap64 (x3_2 + 1))) = some r := by rw [if_pos rfl] at H; exact H
                  clear H
                  have H := H1
                  clear H1
                  have H' := Aside0.mk H
                  clear H
                  have p11 : 0 ≤ (x3_2 : Int) := odt
                  have q11 : x3_2 < (a0.size : Int) := odt
                  have hx11 := bt_at a0 x3_2
                  replace p11 := eq_true p11
                  replace q11 := eq_true q11
                  go_wp2_with (first | ((with_reducible refine gate_callee (f := 108) rfl ?_); refine goesL_ (some 27) rfl rfl Try.func108 (by kernel_rfl) rfl #[.int .u8 (bt a0 x3_2)] rfl gA ?_; (with_reducible refine (spec_l00Letter.calls (bt a0 x3_2) true _ A12.out).mono ?_); rintro e w' ⟨rfl, ⟨nd, rfl⟩⟩; refine ⟨_, rfl, ?_⟩))
                  go_roundg k2
                  case measure => have := HJ1.out; have := HK2.out; omega
                  case rel => exact ⟨(wrap64 (x3_2 + 1)), vE, H', ⟨by have := HJ1.out; have := HK2.out; omega⟩, by repeat (first | exact Drawn0.refl _ | apply Drawn0.step)⟩
                · replace c13 := Bool.eq_false_iff.mpr c13
                  subst c13
                  have H1 : ((spec_l00Digit.f (bt a0 x3_2)).bind fun t152 => (if t152 = true then (spec_l00Word.l0 k2 a0 (wrap64 (x3_2 + 1))) else (some false))) = some r := by rw [if_neg (show ¬ (false = true) by decide)] at H; exact H
                  clear H
                  have H := H1
                  clear H1
                  replace H := Option.bind_eq_some_iff.mp H
                  obtain ⟨t152, A150, H⟩ := H
                  replace H : (if t152 = true then (spec_l00Word.l0 k2 a0 (wrap64 (x3_2 + 1))) else (some false)) = some r := H
                  have A15 := Aside0.mk A150
                  clear A150
                  by_cases c16 : t152 = true
                  · subst c16
                    have H1 : (spec_l00Word.l0 k2 a0 (wrap64 (x3_2 + 1))) = some r := by rw [if_pos rfl] at H; exact H
                    clear H
                    have H := H1
                    clear H1
                    have H' := Aside0.mk H
                    clear H
                    have p11 : 0 ≤ (x3_2 : Int) := odt
                    have q11 : x3_2 < (a0.size : Int) := odt
                    have hx11 := bt_at a0 x3_2
                    replace p11 := eq_true p11
                    replace q11 := eq_true q11
                    go_wp2_with (first | ((with_reducible refine gate_callee (f := 108) rfl ?_); refine goesL_ (some 27) rfl rfl Try.func108 (by kernel_rfl) rfl #[.int .u8 (bt a0 x3_2)] rfl gA ?_; (with_reducible refine (spec_l00Letter.calls (bt a0 x3_2) false _ A12.out).mono ?_); rintro e w' ⟨rfl, ⟨nd, rfl⟩⟩; refine ⟨_, rfl, ?_⟩; have p14 : 0 ≤ (x3_2 : Int) := odt; have q14 : x3_2 < (a0.size : Int) := odt; have hx14 := bt_at a0 x3_2; replace p14 := eq_true p14; replace q14 := eq_true q14) | (go_at_call 109; (with_reducible refine (spec_l00Digit.calls (bt a0 x3_2) true _ A15.out).mono ?_); rintro e w' ⟨rfl, ⟨nd, rfl⟩⟩))
                    go_roundg k2
                    case measure => have := HJ1.out; have := HK2.out; omega
                    case rel => exact ⟨(wrap64 (x3_2 + 1)), vE, H', ⟨by have := HJ1.out; have := HK2.out; omega⟩, by repeat (first | exact Drawn0.refl _ | apply Drawn0.step)⟩
                  · replace c16 := Bool.eq_false_iff.mpr c16
                    subst c16
                    have H1 : (some false) = some r := by rw [if_neg (show ¬ (false = true) by decide)] at H; exact H
                    clear H
                    have H := H1
                    clear H1
                    obtain rfl := Option.some.inj H
                    have p11 : 0 ≤ (x3_2 : Int) := odt
                    have q11 : x3_2 < (a0.size : Int) := odt
                    have hx11 := bt_at a0 x3_2
                    replace p11 := eq_true p11
                    replace q11 := eq_true q11
                    go_wp2_with (first | ((with_reducible refine gate_callee (f := 108) rfl ?_); refine goesL_ (some 27) rfl rfl Try.func108 (by kernel_rfl) rfl #[.int .u8 (bt a0 x3_2)] rfl gA ?_; (with_reducible refine (spec_l00Letter.calls (bt a0 x3_2) false _ A12.out).mono ?_); rintro e w' ⟨rfl, ⟨nd, rfl⟩⟩; refine ⟨_, rfl, ?_⟩; have p14 : 0 ≤ (x3_2 : Int) := odt; have q14 : x3_2 < (a0.size : Int) := odt; have hx14 := bt_at a0 x3_2; replace p14 := eq_true p14; replace q14 := eq_true q14) | (go_at_call 109; (with_reducible refine (spec_l00Digit.calls (bt a0 x3_2) false _ A15.out).mono ?_); rintro e w' ⟨rfl, ⟨nd, rfl⟩⟩))
                    go_ret
                    exact ⟨by first | rfl | (simp; done) | (simp [*]; done), by repeat (first | exact Drawn0.refl _ | apply Drawn0.step)⟩
              · rw [if_neg c10] at H
                exact absurd H (by simp)
            · rw [if_neg c9] at H
              have c9b0 : decide (x3_2 < (a0.size : Int)) = false := decide_eq_false c9
              clear c9
              obtain rfl := Option.some.inj H
              go_wp2
              go_ret
              exact ⟨by first | rfl | (simp; done) | (simp [*]; done), by repeat (first | exact Drawn0.refl _ | apply Drawn0.step)⟩
end Go.Proofs.Ytjkjnfooaglnkaa.Q
end

section
namespace Go.Proofs.Ytjkjnfooaglnkaa.Q
open Go.RowKit Go.Proofs.YtjkjnfooaglnkaaW.PrintWords Go.Proofs.YtjkjnfooaglnkaaW.PrintLast Go.Proofs.YtjkjnfooaglnkaaW.PrintMore
attribute [local go_sem] max2_int min2_int max_two min_two max_three min_three max_four min_four   -- for this text's walks alone
set_option linter.unusedVariables false
set_option linter.unusedSimpArgs false
attribute [local go_sem] bin_leq bin_gtr bin_geq
def inB (n lo hi : Int) : Bool := decide (lo ≤ n) && decide (n ≤ hi)
theorem bytesL_bt (s : ByteArray) (i : Int) (hl : i.toNat < (bytesL s).length) : (bytesL s)[i.toNat] = bt s i := by
  have h2 := bytesL_get s i.toNat
  rw [List.getD_eq_getElem?_getD, List.getElem?_eq_getElem hl] at h2
  have h3 : i.toNat < s.size := by rw [bytesL_length] at hl; exact hl
  simp only [Option.getD_some] at h2
  rw [h2, bt, dif_pos h3, List.getD_eq_getElem?_getD, List.getElem?_eq_getElem (by simpa using h3)]
  rfl
theorem l00Word_l0 (s : ByteArray) (hs : s.size ≤ 12) (d : Nat) : ∀ (k : Nat) (i : Int), 0 ≤ i → i ≤ s.size → (s.size : Int) - i = d → d < k → spec_l00Word.l0 k s i = some (((bytesL s).drop i.toNat).all (fun c => letB c || digB c)) := by
  induction d with
  | zero =>
    intro k i h0 h1 hd hk
    obtain ⟨k, rfl⟩ : ∃ m, k = m + 1 := ⟨k - 1, by omega⟩
    simp only [spec_l00Word.l0]
    rw [if_neg (by omega), List.drop_eq_nil_of_le (by rw [bytesL_length]; omega)]
    rfl
  | succ d ih =>
    intro k i h0 h1 hd hk
    obtain ⟨k, rfl⟩ : ∃ m, k = m + 1 := ⟨k - 1, by omega⟩
    have hw : wrap64 (i + 1) = i + 1 := by unfold wrap64; omega
    have e : (i + 1).toNat = i.toNat + 1 := by omega
    have hl : i.toNat < (bytesL s).length := by rw [bytesL_length]; omega
    have hb : (bytesL s)[i.toNat] = bt s i := bytesL_bt s i hl
    have hi := ih k (i + 1) (by omega) (by omega) (by omega) (by omega)
    have lf := letB_f (bt s i)
    have df := digB_f (bt s i)
    have lf2 : spec_l00Letter.f (bt s i) = some (letB (bt s i)) := lf
    have df2 : spec_l00Digit.f (bt s i) = some (digB (bt s i)) := df
    simp only [spec_l00Word.l0]
    rw [if_pos (by omega), if_pos h0, lf2, List.drop_eq_getElem_cons hl, hb, hw, hi, e]
    simp only [Option.bind_some, List.all_cons]
    cases hL : letB (bt s i)
    · rw [df2]
      simp only [Option.bind_some]
      cases hD : digB (bt s i) <;> simp
    · simp
theorem l00Word_f (s : ByteArray) : spec_l00Word.f 20 s = some (nameB s) := by
  unfold spec_l00Word.f
  by_cases h1 : (s.size : Int) < 1
  · rw [if_pos h1]
    have : nameB s = false := by
      unfold nameB
      have h3 : ¬ 1 ≤ s.size := by omega
      simp [h3]
    rw [this]; simp [spec_l00Word.j0]
  · rw [if_neg h1]
    by_cases h2 : (s.size : Int) > 12
    · rw [if_pos h2]
      have : nameB s = false := by
        unfold nameB
        have h3 : ¬ s.size ≤ 12 := by omega
        simp [h3]
      rw [this]; simp [spec_l00Word.j0]
    · rw [if_neg h2, if_pos (by omega)]
      have lf2 : spec_l00Letter.f (bt s 0) = some (letB (bt s 0)) := letB_f (bt s 0)
      rw [lf2]
      simp only [Option.bind_some]
      have h3 : 1 ≤ s.size := by omega
      have h4 : s.size ≤ 12 := by omega
      cases hL : letB (bt s 0)
      · simp [spec_l00Word.j0, nameB, hL]
      · simp only [spec_l00Word.j0]
        rw [if_neg (by decide), l00Word_l0 s h4 (s.size - 1) 19 1 (by omega) (by omega) (by omega) (by omega)]
        have hl : 0 < (bytesL s).length := by rw [bytesL_length]; omega
        have hb : (bytesL s)[0] = bt s 0 := bytesL_bt s 0 hl
        have : (bytesL s).all (fun c => letB c || digB c) = ((bytesL s).drop 1).all (fun c => letB c || digB c) := by
          have h5 := List.drop_eq_getElem_cons hl
          rw [List.drop_zero] at h5
          rw [h5, List.all_cons, hb, hL]; simp
        unfold nameB
        rw [this, hL]
        simp [h3, h4]
theorem l00Word_call (s : ByteArray) (w : World) (r : Bool) (h : nameB s = r) : Calls Try.prog 89 #[.string s] w fun e w' => e = .returned (.bool r) ∧ Drawn0 w w' :=
  spec_l00Word.calls 20 s r w (by rw [l00Word_f, h])
theorem l01In_call (n lo hi : Int) (w : World) (r : Bool) (h : inB n lo hi = r) : Calls Try.prog 68 #[.int .i64 n, .int .i64 lo, .int .i64 hi] w fun e w' => e = .returned (.bool r) ∧ Drawn0 w w' :=
  spec_l01In.calls n lo hi r w (by rw [← h]; unfold spec_l01In.f inB; by_cases h1 : lo ≤ n <;> simp [h1])
end Go.Proofs.Ytjkjnfooaglnkaa.Q
end

section
namespace Go.Proofs.Ytjkjnfooaglnkaa.Q
open Go.RowKit Go.Proofs.YtjkjnfooaglnkaaW.PrintWords Go.Proofs.YtjkjnfooaglnkaaW.PrintLast Go.Proofs.YtjkjnfooaglnkaaW.PrintMore
attribute [local go_sem] max2_int min2_int max_two min_two max_three min_three max_four min_four   -- for this text's walks alone
set_option linter.unusedVariables false
set_option linter.unusedSimpArgs false
attribute [local go_sem] bin_leq bin_gtr bin_geq
def entB (e : S90) : Bool := nameB e.f0 && inB e.f1 (-1000000) 1000000
def entAt (m : List S90) (j : Nat) : Bool := entB (rd_T90 m (j : Int)) && (j == 0 || sblt (rd_T90 m ((j : Int) - 1)).f0 (rd_T90 m (j : Int)).f0)
def mapB (m : List S90) : Bool := decide (m.length ≤ 12) && allR (entAt m) m.length
end Go.Proofs.Ytjkjnfooaglnkaa.Q
end

section
namespace Go.Proofs.Ytjkjnfooaglnkaa.Q
open Go.RowKit Go.Proofs.YtjkjnfooaglnkaaW.PrintWords Go.Proofs.YtjkjnfooaglnkaaW.PrintLast Go.Proofs.YtjkjnfooaglnkaaW.PrintMore
attribute [local go_sem] max2_int min2_int max_two min_two max_three min_three max_four min_four   -- for this text's walks alone
set_option linter.unusedVariables false
set_option linter.unusedSimpArgs false
attribute [local go_sem] bin_leq bin_gtr bin_geq
def spec_l01OK.f (l0 : List (S90)) : Option (Bool) := some (mapB l0)
set_option maxHeartbeats 4000000 in
set_option maxRecDepth 100000 in
theorem spec_l01OK.calls (A0 : Option Addr) (c0 : Nat) (l0 : List (S90)) (r : Bool) (w : World) (hr0 : Kd.C k90 w A0 l0.length l0) (hc0 : l0.length ≤ c0) (h : spec_l01OK.f l0 = some r) :
    Calls Try.prog 52 #[.slice A0 l0.length c0] w fun e w' => e = .returned (.bool r) ∧ Drawn0 w w' := by
  obtain rfl := Option.some.inj h
  clear h
  have HM : l0.length ≤ 9223372036854775807 := hr0.2.1
  have HR0 := Aside0.mk hr0
  clear hr0 hc0
  by_cases hlen : l0.length ≤ 12
  · have RT := Aside0.mk (show allR (entAt l0) l0.length = mapB l0 by simp [mapB, hlen])
    go_enter Try.func52, Try.ntmps52
    go_wp2
    go_loopg [3] l0.length (fun gk v3 w' => ∃ x : Int, v3 = .int .i64 x ∧ 0 ≤ x ∧ x ≤ l0.length ∧ l0.length - x.toNat ≤ gk ∧ Aside0 (∀ j, j < x.toNat → entAt l0 j = true) ∧ Aside0 (Drawn0 w w'))
    case atStart => exact ⟨0, rfl, by omega, by omega, by omega, ⟨fun j hj => absurd hj (by simp)⟩, ⟨Drawn0.refl _⟩⟩
    case round =>
      obtain ⟨x, rfl, h0, h1, hg, HA, HD⟩ := hrel
      by_cases hlt : x < (l0.length : Int)
      · have HRW := Aside0.mk (C_drawn HR0.out HD.out)
        obtain ⟨ad, e1, hx0, hx1⟩ := at_T90 HRW.out x h0 hlt
        cases e1
        have ex : ((x.toNat : Nat) : Int) = x := by omega
        have E0 := Aside0.mk (show entAt l0 x.toNat = (entB (rd_T90 l0 x) && (x.toNat == 0 || sblt (rd_T90 l0 (x - 1)).f0 (rd_T90 l0 x).f0)) by unfold entAt; rw [ex])
        clear ex
        cases hN : nameB (rd_T90 l0 x).f0 with
        | false =>
          have HN := Aside0.mk hN
          have E1 := Aside0.mk (show mapB l0 = false by rw [← RT.out]; exact allR_false (j := x.toNat) (by omega) (by rw [E0.out, entB, HN.out]; rfl))
          clear hN
          go_wp2
          go_quiet ((go_at_call 89; exact quiet_ (l00Word_call _ _ _ HN.out)))
          go_wp2
          go_ret
          exact ⟨by rw [E1.out]; rfl, drawn_then HD.out (drawn_q _)⟩
        | true =>
          have HN := Aside0.mk hN
          clear hN
          cases hV : inB (rd_T90 l0 x).f1 (-1000000) 1000000 with
          | false =>
            have HV := Aside0.mk hV
            have E1 := Aside0.mk (show mapB l0 = false by rw [← RT.out]; exact allR_false (j := x.toNat) (by omega) (by rw [E0.out, entB, HN.out, HV.out]; rfl))
            clear hV
            go_wp2
            go_quiet ((first | (go_at_call 89; exact quiet_ (l00Word_call _ _ _ HN.out)) | (go_at_call 68; exact quiet_ (l01In_call _ _ _ _ _ HV.out))))
            go_wp2
            go_ret
            exact ⟨by rw [E1.out]; rfl, drawn_then HD.out (drawn_q _)⟩
          | true =>
            have HV := Aside0.mk hV
            clear hV
            by_cases hpos : 0 < x
            · obtain ⟨ad', e2, hz0, hz1⟩ := at_T90 HRW.out (x - 1) (by omega) (by omega)
              cases e2
              rw [show (x - 1).toNat = x.toNat - 1 by omega] at hz0
              clear hz1
              cases hS : sblt (rd_T90 l0 (x - 1)).f0 (rd_T90 l0 x).f0 with
              | false =>
                have HS := Aside0.mk hS
                have E1 := Aside0.mk (show mapB l0 = false by
                  rw [← RT.out]
                  have h2 : (x.toNat == 0) = false := by simp; omega
                  exact allR_false (j := x.toNat) (by omega) (by rw [E0.out, entB, HN.out, HV.out, HS.out, h2]; rfl))
                have hS1 : Op.bytesLess (rd_T90 l0 (x - 1)).f0.toList (rd_T90 l0 x).f0.toList = false := hS
                clear hS
                have p1 : 0 ≤ x - 1 := by omega
                have p2 : x - 1 < (l0.length : Int) := by omega
                have p3 : 1 ≤ x := by omega
                have hwr : IntKind.i64.wrap (x - 1) = x - 1 := IntWalk.i64_in _ (by omega)
                go_wp2
                go_quiet ((first | (go_at_call 89; exact quiet_ (l00Word_call _ _ _ HN.out)) | (go_at_call 68; exact quiet_ (l01In_call _ _ _ _ _ HV.out))))
                clear hwr
                go_wp2
                go_ret
                exact ⟨by rw [E1.out]; rfl, drawn_then HD.out (drawn_q _)⟩
              | true =>
                have HS := Aside0.mk hS
                have E1 := Aside0.mk (show entAt l0 x.toNat = true by rw [E0.out, entB, HN.out, HV.out, HS.out]; simp)
                have hS1 : Op.bytesLess (rd_T90 l0 (x - 1)).f0.toList (rd_T90 l0 x).f0.toList = true := hS
                clear hS
                have p1 : 0 ≤ x - 1 := by omega
                have p2 : x - 1 < (l0.length : Int) := by omega
                have p3 : 1 ≤ x := by omega
                have hwr : IntKind.i64.wrap (x - 1) = x - 1 := IntWalk.i64_in _ (by omega)
                go_wp2
                go_quiet ((first | (go_at_call 89; exact quiet_ (l00Word_call _ _ _ HN.out)) | (go_at_call 68; exact quiet_ (l01In_call _ _ _ _ _ HV.out))))
                clear hwr
                go_wp2
                go_roundg (l0.length - (x.toNat + 1))
                case measure => omega
                case rel => exact ⟨x + 1, by go_num, by omega, by omega, by omega, ⟨fun j hj => by
                  by_cases e : j = x.toNat
                  · rw [e]; exact E1.out
                  · exact HA.out j (by omega)⟩, ⟨drawn_then HD.out (drawn_q _)⟩⟩
            · have h2 : (x.toNat == 0) = true := by simp; omega
              have E1 := Aside0.mk (show entAt l0 x.toNat = true by rw [E0.out, entB, HN.out, HV.out, h2]; rfl)
              clear h2
              have p0 : decide (0 < x) = false := decide_eq_false hpos
              go_wp2
              go_quiet ((first | (go_at_call 89; exact quiet_ (l00Word_call _ _ _ HN.out)) | (go_at_call 68; exact quiet_ (l01In_call _ _ _ _ _ HV.out))))
              go_wp2
              go_roundg (l0.length - (x.toNat + 1))
              case measure => omega
              case rel => exact ⟨x + 1, by go_num, by omega, by omega, by omega, ⟨fun j hj => by
                obtain rfl : j = x.toNat := by omega
                exact E1.out⟩, ⟨drawn_then HD.out (drawn_q _)⟩⟩
      · have E1 := Aside0.mk (show mapB l0 = true by rw [← RT.out]; exact allR_true (fun j hj => HA.out j (by omega)))
        obtain rfl : x = (l0.length : Int) := by omega
        go_wp2
        go_ret
        exact ⟨by rw [E1.out]; rfl, HD.out⟩
  · have RT := Aside0.mk (show false = mapB l0 by simp [mapB, hlen])
    go_enter Try.func52, Try.ntmps52
    go_wp2
    go_ret
    exact ⟨by rw [← RT.out]; rfl, Drawn0.refl _⟩
end Go.Proofs.Ytjkjnfooaglnkaa.Q
end

section
namespace Go.Proofs.Ytjkjnfooaglnkaa.Q
open Go.RowKit Go.Proofs.YtjkjnfooaglnkaaW.PrintWords Go.Proofs.YtjkjnfooaglnkaaW.PrintLast Go.Proofs.YtjkjnfooaglnkaaW.PrintMore
attribute [local go_sem] max2_int min2_int max_two min_two max_three min_three max_four min_four   -- for this text's walks alone
set_option linter.unusedVariables false
set_option linter.unusedSimpArgs false
attribute [local go_sem] bin_leq bin_gtr bin_geq
mutual
def spec_l11Loose.j0 : Nat → Bool → List Int → List (S90) → Option (Bool)
  | 0, _, _, _ => none
  | k + 1, x13, x154000, x154001 => if x13 = true then (some false) else (spec_l11Loose.l0 k 0 x154000 x154001)
def spec_l11Loose.l0 : Nat → Int → List Int → List (S90) → Option (Bool)
  | 0, _, _, _ => none
  | k + 1, x3, x154000, x154001 => if x3 < (x154000.length : Int) then (if 0 ≤ x3 then ((spec_l01In.f (rd x154000 x3) 1 60).bind fun t156 => (if t156 = true then (if x3 > 0 then (if 0 < (x154000.length : Int) then (if (rd x154000 x3) = (rd x154000 0) then (some false) else (spec_l11Loose.l0 k (wrap64 (x3 + 1)) x154000 x154001)) else (none)) else (spec_l11Loose.l0 k (wrap64 (x3 + 1)) x154000 x154001)) else (some false))) else (none)) else (some true)
end
def spec_l11Loose.f (k : Nat) (l0_0 : List Int) (l0_1 : List (S90)) : Option (Bool) := (spec_l01OK.f l0_1).bind fun t154 => (if t154 = true then (spec_l11Loose.j0 k (decide ((l0_0.length : Int) > 2)) l0_0 l0_1) else (spec_l11Loose.j0 k true l0_0 l0_1))
set_option maxHeartbeats 8000000 in
set_option maxRecDepth 100000 in
theorem spec_l11Loose.calls (k : Nat) (A0_0 : Option Addr) (c0_0 : Nat) (l0_0 : List Int) (A0_1 : Option Addr) (c0_1 : Nat) (l0_1 : List (S90)) (r : Bool) (w : World) (hr0_0 : Kd.C (Kd.int .i64) w A0_0 l0_0.length l0_0) (hc0_0 : l0_0.length ≤ c0_0) (hr0_1 : Kd.C k90 w A0_1 l0_1.length l0_1) (hc0_1 : l0_1.length ≤ c0_1) (h : spec_l11Loose.f k l0_0 l0_1 = some r) :
    Calls Try.prog 30 #[.agg #[.slice A0_0 l0_0.length c0_0, .slice A0_1 l0_1.length c0_1]] w fun e w' => e = .returned (.bool r) ∧ Below w.heap.size w w' := by
  have hu25 := Try.underlying25
  have HR0_0 := Aside0.mk hr0_0
  have HC0_0 := Aside0.mk hc0_0
  clear hr0_0 hc0_0
  have HR0_1 := Aside0.mk hr0_1
  have HC0_1 := Aside0.mk hc0_1
  clear hr0_1 hc0_1
  have HB := Aside0.mk (Below.refl w.heap.size w)
  have H : ((spec_l01OK.f l0_1).bind fun t154 => (if t154 = true then (spec_l11Loose.j0 k (decide ((l0_0.length : Int) > 2)) l0_0 l0_1) else (spec_l11Loose.j0 k true l0_0 l0_1))) = some r := h
  clear h
  have HC2 := Aside0.mk H
  clear H
  go_enter Try.func30, Try.ntmps30
  go_upto_region 1 with (first | ((with_reducible refine gate_dst (N := 1) rfl ?_); (try (refine gate_guard (by rfl) ?_; dsimp only)); refine bE (N := 1) (cs := #[.slice A0_0 l0_0.length c0_0, .slice A0_1 l0_1.length c0_1]) (t := 25) ?_; intro gb153 hg w3 hbox hb; have n0_ := Aside0.mk (below_step (w := w) bW hb); have n1_ := Aside0.mk (hbox); have n2_ := Aside0.mk (gS (w := w) hg); have n3_ := n2_; clear HB; have HB := n0_; have BK153 := n1_; have GW153 := n2_; have GE153 := n3_; clear n0_ n1_ n2_ n3_; clear hb hbox hg))
  repeat (go_quiet (first | ((with_reducible refine gate_dst (N := 1) rfl ?_); (try (refine gate_guard (by rfl) ?_; dsimp only)); refine bE (N := 1) (cs := #[.slice A0_0 l0_0.length c0_0, .slice A0_1 l0_1.length c0_1]) (t := 25) ?_; intro gb153 hg w3 hbox hb; have n0_ := Aside0.mk (below_step (w := w) bW hb); have n1_ := Aside0.mk (hbox); have n2_ := Aside0.mk (gS (w := w) hg); have n3_ := n2_; clear HB; have HB := n0_; have BK153 := n1_; have GW153 := n2_; have GE153 := n3_; clear n0_ n1_ n2_ n3_; clear hb hbox hg)); go_upto_region 1 with (first | ((with_reducible refine gate_dst (N := 1) rfl ?_); (try (refine gate_guard (by rfl) ?_; dsimp only)); refine bE (N := 1) (cs := #[.slice A0_0 l0_0.length c0_0, .slice A0_1 l0_1.length c0_1]) (t := 25) ?_; intro gb153 hg w3 hbox hb; have n0_ := Aside0.mk (below_step (w := w) bW hb); have n1_ := Aside0.mk (hbox); have n2_ := Aside0.mk (gS (w := w) hg); have n3_ := n2_; clear HB; have HB := n0_; have BK153 := n1_; have GW153 := n2_; have GE153 := n3_; clear n0_ n1_ n2_ n3_; clear hb hbox hg)))
  (try simp only [Act.put, List.setIfInBounds_toArray, List.set_cons_zero, List.set_cons_succ])
  go_cut [13] (fun v13 wc => ∃ (kq : Nat) (x13_1 : Bool), v13 = .bool x13_1 ∧ Aside0 (spec_l11Loose.j0 kq x13_1 l0_0 l0_1 = some r) ∧ Aside0 (kq ≤ k) ∧ Aside0 (wc.heap[gb153]? = some (.cells #[(.slice A0_0 l0_0.length c0_0), (.slice A0_1 l0_1.length c0_1)] 25 (0, 0))) ∧ Aside0 (Below w.heap.size w wc))
  case first =>
    have H := HC2.out
    clear HC2
    replace H := Option.bind_eq_some_iff.mp H
    obtain ⟨t154, A40, H⟩ := H
    replace H : (if t154 = true then (spec_l11Loose.j0 k (decide ((l0_0.length : Int) > 2)) l0_0 l0_1) else (spec_l11Loose.j0 k true l0_0 l0_1)) = some r := H
    have A4 := Aside0.mk A40
    clear A40
    by_cases c5 : t154 = true
    · subst c5
      have H1 : (spec_l11Loose.j0 k (decide ((l0_0.length : Int) > 2)) l0_0 l0_1) = some r := by rw [if_pos rfl] at H; exact H
      clear H
      have H := H1
      clear H1
      have H' := Aside0.mk H
      clear H
      have hcz6_0 : w3.cell? ⟨gb153, 0, none⟩ = some (.slice A0_0 l0_0.length c0_0) := (blk_cell BK153.out 0).trans rfl
      have hcz6_1 : w3.cell? ⟨gb153, 1, none⟩ = some (.slice A0_1 l0_1.length c0_1) := (blk_cell BK153.out 1).trans rfl
      have hfz6_0 := blk_frozen BK153.out 0
      have hfz6_1 := blk_frozen BK153.out 1
      go_wp2_with (first | (go_at_call 52; (with_reducible refine (spec_l01OK.calls _ _ l0_1 true _ ?side1 ?side2 A4.out).mono ?_); (case side1 => exact cB HR0_1); (case side2 => exact HC0_1.out); rintro e w' ⟨rfl, ⟨nd, rfl⟩⟩; (try first | exact ⟨rfl, _, World.drewN_drewN _ _ _⟩ | exact ⟨rfl, _, Eq.trans (World.drewN_drewN _ _ _) (congrArg (World.drewN _) (Nat.add_assoc _ _ _))⟩)))
      repeat (go_quiet (first | (go_at_call 52; (with_reducible refine (spec_l01OK.calls _ _ l0_1 true _ ?side1 ?side2 A4.out).mono ?_); (case side1 => exact cB HR0_1); (case side2 => exact HC0_1.out); rintro e w' ⟨rfl, ⟨nd, rfl⟩⟩; (try first | exact ⟨rfl, _, World.drewN_drewN _ _ _⟩ | exact ⟨rfl, _, Eq.trans (World.drewN_drewN _ _ _) (congrArg (World.drewN _) (Nat.add_assoc _ _ _))⟩))); try go_wp2_with (first | (go_at_call 52; (with_reducible refine (spec_l01OK.calls _ _ l0_1 true _ ?side1 ?side2 A4.out).mono ?_); (case side1 => exact cB HR0_1); (case side2 => exact HC0_1.out); rintro e w' ⟨rfl, ⟨nd, rfl⟩⟩; (try first | exact ⟨rfl, _, World.drewN_drewN _ _ _⟩ | exact ⟨rfl, _, Eq.trans (World.drewN_drewN _ _ _) (congrArg (World.drewN _) (Nat.add_assoc _ _ _))⟩))))
      go_meet
      case rel => exact ⟨_, (decide ((l0_0.length : Int) > 2)), vE, H', ⟨by first | omega | exact Nat.le_refl _⟩, ⟨by (with_reducible repeat (first | refine blk_drewN ?_ _ | refine blk_drew ?_ | refine blk_alloc ?_ _)); exact BK153.out⟩, ⟨bW⟩⟩
    · replace c5 := Bool.eq_false_iff.mpr c5
      subst c5
      have H1 : (spec_l11Loose.j0 k true l0_0 l0_1) = some r := by rw [if_neg (show ¬ (false = true) by decide)] at H; exact H
      clear H
      have H := H1
      clear H1
      have H' := Aside0.mk H
      clear H
      have hcz7_0 : w3.cell? ⟨gb153, 0, none⟩ = some (.slice A0_0 l0_0.length c0_0) := (blk_cell BK153.out 0).trans rfl
      have hcz7_1 : w3.cell? ⟨gb153, 1, none⟩ = some (.slice A0_1 l0_1.length c0_1) := (blk_cell BK153.out 1).trans rfl
      have hfz7_0 := blk_frozen BK153.out 0
      have hfz7_1 := blk_frozen BK153.out 1
      go_wp2_with (first | (go_at_call 52; (with_reducible refine (spec_l01OK.calls _ _ l0_1 false _ ?side1 ?side2 A4.out).mono ?_); (case side1 => exact cB HR0_1); (case side2 => exact HC0_1.out); rintro e w' ⟨rfl, ⟨nd, rfl⟩⟩; (try first | exact ⟨rfl, _, World.drewN_drewN _ _ _⟩ | exact ⟨rfl, _, Eq.trans (World.drewN_drewN _ _ _) (congrArg (World.drewN _) (Nat.add_assoc _ _ _))⟩)))
      repeat (go_quiet (first | (go_at_call 52; (with_reducible refine (spec_l01OK.calls _ _ l0_1 false _ ?side1 ?side2 A4.out).mono ?_); (case side1 => exact cB HR0_1); (case side2 => exact HC0_1.out); rintro e w' ⟨rfl, ⟨nd, rfl⟩⟩; (try first | exact ⟨rfl, _, World.drewN_drewN _ _ _⟩ | exact ⟨rfl, _, Eq.trans (World.drewN_drewN _ _ _) (congrArg (World.drewN _) (Nat.add_assoc _ _ _))⟩))); try go_wp2_with (first | (go_at_call 52; (with_reducible refine (spec_l01OK.calls _ _ l0_1 false _ ?side1 ?side2 A4.out).mono ?_); (case side1 => exact cB HR0_1); (case side2 => exact HC0_1.out); rintro e w' ⟨rfl, ⟨nd, rfl⟩⟩; (try first | exact ⟨rfl, _, World.drewN_drewN _ _ _⟩ | exact ⟨rfl, _, Eq.trans (World.drewN_drewN _ _ _) (congrArg (World.drewN _) (Nat.add_assoc _ _ _))⟩))))
      go_meet
      case rel => exact ⟨_, (true), vE, H', ⟨by first | omega | exact Nat.le_refl _⟩, ⟨by (with_reducible repeat (first | refine blk_drewN ?_ _ | refine blk_drew ?_ | refine blk_alloc ?_ _)); exact BK153.out⟩, ⟨bW⟩⟩
  case rest =>
    clear HC2
    try clear p2
    try clear c3
    try clear c5
    try clear hcz6_0
    try clear hcz6_1
    try clear hcz7_0
    try clear hcz7_1
    try clear hfz6_0
    try clear hfz6_1
    try clear hfz7_0
    try clear hfz7_1
    obtain ⟨kq, x13_1, rfl, HA, HJ1, BK153, HB⟩ := hcut
    cases kq with
    | zero => exact absurd HA.out (by simp [spec_l11Loose.j0])
    | succ kj1 =>
      have H := HA.out
      clear HA
      simp only [spec_l11Loose.j0] at H
      by_cases c8 : x13_1 = true
      · subst c8
        have H1 : (some false) = some r := by rw [if_pos rfl] at H; exact H
        clear H
        have H := H1
        clear H1
        obtain rfl := Option.some.inj H
        go_wp2
        repeat (go_quiet (fail); try go_wp2)
        go_ret
        exact ⟨rE, bW⟩
      · replace c8 := Bool.eq_false_iff.mpr c8
        subst c8
        have H1 : (spec_l11Loose.l0 kj1 0 l0_0 l0_1) = some r := by rw [if_neg (show ¬ (false = true) by decide)] at H; exact H
        clear H
        have H := H1
        clear H1
        have H' := Aside0.mk H
        clear H
        go_wp2
        repeat (go_quiet (fail); try go_wp2)
        go_loopg [3] kj1 (fun kq v3 w' => ∃ (x3_2 : Int), v3 = .int .i64 x3_2 ∧ Aside0 (spec_l11Loose.l0 kq x3_2 l0_0 l0_1 = some r) ∧ Aside0 (kq ≤ kj1) ∧ Aside0 (w'.heap[gb153]? = some (.cells #[(.slice A0_0 l0_0.length c0_0), (.slice A0_1 l0_1.length c0_1)] 25 (0, 0))) ∧ Aside0 (Below w.heap.size w w'))
        case atStart => exact ⟨(0), vE, H', ⟨Nat.le_refl _⟩, ⟨by (with_reducible repeat (first | refine blk_drewN ?_ _ | refine blk_drew ?_ | refine blk_alloc ?_ _)); exact BK153.out⟩, ⟨bW⟩⟩
        case round =>
          clear H'
          try clear p2
          try clear c3
          try clear c5
          try clear c8
          try clear hcz6_0
          try clear hcz6_1
          try clear hcz7_0
          try clear hcz7_1
          try clear hfz6_0
          try clear hfz6_1
          try clear hfz7_0
          try clear hfz7_1
          try clear p2
          obtain ⟨x3_2, rfl, HA, HK2, BK153, HB⟩ := hrel
          cases gk with
          | zero => exact absurd HA.out (by simp [spec_l11Loose.l0])
          | succ k2 =>
            have H := HA.out
            clear HA
            simp only [spec_l11Loose.l0] at H
            by_cases c9 : x3_2 < (l0_0.length : Int)
            · rw [if_pos c9] at H
              have c9b0 : decide (x3_2 < (l0_0.length : Int)) = true := decide_eq_true c9
              clear c9
              by_cases c10 : 0 ≤ x3_2
              · rw [if_pos c10] at H
                have c10b0 : decide (0 ≤ x3_2) = true := decide_eq_true c10
                clear c10
                replace H := Option.bind_eq_some_iff.mp H
                obtain ⟨t156, A110, H⟩ := H
                replace H : (if t156 = true then (if x3_2 > 0 then (if 0 < (l0_0.length : Int) then (if (rd l0_0 x3_2) = (rd l0_0 0) then (some false) else (spec_l11Loose.l0 k2 (wrap64 (x3_2 + 1)) l0_0 l0_1)) else (none)) else (spec_l11Loose.l0 k2 (wrap64 (x3_2 + 1)) l0_0 l0_1)) else (some false)) = some r := H
                have A11 := Aside0.mk A110
                clear A110
                by_cases c12 : t156 = true
                · subst c12
                  have H1 : (if x3_2 > 0 then (if 0 < (l0_0.length : Int) then (if (rd l0_0 x3_2) = (rd l0_0 0) then (some false) else (spec_l11Loose.l0 k2 (wrap64 (x3_2 + 1)) l0_0 l0_1)) else (none)) else (spec_l11Loose.l0 k2 (wrap64 (x3_2 + 1)) l0_0 l0_1)) = some r := by rw [if_pos rfl] at H; exact H
                  clear H
                  have H := H1
                  clear H1
                  by_cases c13 : x3_2 > 0
                  · rw [if_pos c13] at H
                    have c13b0 : decide (0 < x3_2) = true := decide_eq_true c13
                    clear c13
                    by_cases c14 : 0 < (l0_0.length : Int)
                    · rw [if_pos c14] at H
                      have c14b0 : decide (0 < (l0_0.length : Int)) = true := decide_eq_true c14
                      have c14b1 : decide (0 < l0_0.length) = true := decide_eq_true (by omega)
                      clear c14
                      by_cases c15 : (rd l0_0 x3_2) = (rd l0_0 0)
                      · rw [if_pos c15] at H
                        have c15b0 : ((rd l0_0 x3_2) == (rd l0_0 0)) = true := beq_iff_eq.mpr c15
                        have c15b1 : ((rd l0_0 x3_2) != (rd l0_0 0)) = false := bne_eq_false_iff_eq.mpr c15
                        clear c15
                        obtain rfl := Option.some.inj H
                        have hcz16_0 : wr.cell? ⟨gb153, 0, none⟩ = some (.slice A0_0 l0_0.length c0_0) := (blk_cell BK153.out 0).trans rfl
                        have hcz16_1 : wr.cell? ⟨gb153, 1, none⟩ = some (.slice A0_1 l0_1.length c0_1) := (blk_cell BK153.out 1).trans rfl
                        have hfz16_0 := fz1 BK153
                        have hfz16_1 := blk_frozen BK153.out 1
                        have p155 : 0 ≤ (x3_2 : Int) := odt
                        have q155 : x3_2 < (l0_0.length : Int) := odt
                        obtain ⟨ad155, e155, hx155_0⟩ := Kd.at_int HR0_0.out x3_2 p155 q155
                        cases e155
                        replace hx155_0 := (HB.out.cell (World.block_lt_of_cell? w _ hx155_0)).trans hx155_0
                        replace p155 := eq_true p155
                        replace q155 := eq_true q155
                        go_wp2_with (first | (go_at_call 68; (with_reducible refine (spec_l01In.calls (rd l0_0 x3_2) 1 60 true _ A11.out).mono ?_); rintro e w' ⟨rfl, ⟨nd, rfl⟩⟩; (try first | exact ⟨rfl, _, World.drewN_drewN _ _ _⟩ | exact ⟨rfl, _, Eq.trans (World.drewN_drewN _ _ _) (congrArg (World.drewN _) (Nat.add_assoc _ _ _))⟩); have p157 : 0 ≤ (x3_2 : Int) := odt; have q157 : x3_2 < (l0_0.length : Int) := odt; obtain ⟨ad157, e157, hx157_0⟩ := Kd.at_int HR0_0.out x3_2 p157 q157; obtain rfl : ad155 = ad157 := (by injection e157); replace hx157_0 := (HB.out.cell (World.block_lt_of_cell? w _ hx157_0)).trans hx157_0; replace p157 := eq_true p157; replace q157 := eq_true q157; have p158 : 0 ≤ (0 : Int) := (by omega); have q158 : 0 < (l0_0.length : Int) := odt; obtain ⟨ad158, e158, hx158_0⟩ := Kd.at_int HR0_0.out 0 p158 q158; obtain rfl : ad155 = ad158 := (by injection e158); have qi158 : (0 < l0_0.length) = True := eq_true (by omega); (try rw [show ((0 : Int)).toNat = 0 from rfl] at hx158_0); (try rw [Addr.add_zero'] at hx158_0); replace hx158_0 := (HB.out.cell (World.block_lt_of_cell? w _ hx158_0)).trans hx158_0; replace p158 := eq_true p158; replace q158 := eq_true q158))
                        repeat (go_quiet (first | (go_at_call 68; (with_reducible refine (spec_l01In.calls (rd l0_0 x3_2) 1 60 true _ A11.out).mono ?_); rintro e w' ⟨rfl, ⟨nd, rfl⟩⟩; (try first | exact ⟨rfl, _, World.drewN_drewN _ _ _⟩ | exact ⟨rfl, _, Eq.trans (World.drewN_drewN _ _ _) (congrArg (World.drewN _) (Nat.add_assoc _ _ _))⟩); have p157 : 0 ≤ (x3_2 : Int) := odt; have q157 : x3_2 < (l0_0.length : Int) := odt; obtain ⟨ad157, e157, hx157_0⟩ := Kd.at_int HR0_0.out x3_2 p157 q157; obtain rfl : ad155 = ad157 := (by injection e157); replace hx157_0 := (HB.out.cell (World.block_lt_of_cell? w _ hx157_0)).trans hx157_0; replace p157 := eq_true p157; replace q157 := eq_true q157; have p158 : 0 ≤ (0 : Int) := (by omega); have q158 : 0 < (l0_0.length : Int) := odt; obtain ⟨ad158, e158, hx158_0⟩ := Kd.at_int HR0_0.out 0 p158 q158; obtain rfl : ad155 = ad158 := (by injection e158); have qi158 : (0 < l0_0.length) = True := eq_true (by omega); (try rw [show ((0 : Int)).toNat = 0 from rfl] at hx158_0); (try rw [Addr.add_zero'] at hx158_0); replace hx158_0 := (HB.out.cell (World.block_lt_of_cell? w _ hx158_0)).trans hx158_0; replace p158 := eq_true p158; replace q158 := eq_true q158)); try go_wp2_with (first | (go_at_call 68; (with_reducible refine (spec_l01In.calls (rd l0_0 x3_2) 1 60 true _ A11.out).mono ?_); rintro e w' ⟨rfl, ⟨nd, rfl⟩⟩; (try first | exact ⟨rfl, _, World.drewN_drewN _ _ _⟩ | exact ⟨rfl, _, Eq.trans (World.drewN_drewN _ _ _) (congrArg (World.drewN _) (Nat.add_assoc _ _ _))⟩); have p157 : 0 ≤ (x3_2 : Int) := odt; have q157 : x3_2 < (l0_0.length : Int) := odt; obtain ⟨ad157, e157, hx157_0⟩ := Kd.at_int HR0_0.out x3_2 p157 q157; obtain rfl : ad155 = ad157 := (by injection e157); replace hx157_0 := (HB.out.cell (World.block_lt_of_cell? w _ hx157_0)).trans hx157_0; replace p157 := eq_true p157; replace q157 := eq_true q157; have p158 : 0 ≤ (0 : Int) := (by omega); have q158 : 0 < (l0_0.length : Int) := odt; obtain ⟨ad158, e158, hx158_0⟩ := Kd.at_int HR0_0.out 0 p158 q158; obtain rfl : ad155 = ad158 := (by injection e158); have qi158 : (0 < l0_0.length) = True := eq_true (by omega); (try rw [show ((0 : Int)).toNat = 0 from rfl] at hx158_0); (try rw [Addr.add_zero'] at hx158_0); replace hx158_0 := (HB.out.cell (World.block_lt_of_cell? w _ hx158_0)).trans hx158_0; replace p158 := eq_true p158; replace q158 := eq_true q158)))
                        go_ret
                        exact ⟨rE, bW⟩
                      · rw [if_neg c15] at H
                        have c15b0 : ((rd l0_0 x3_2) == (rd l0_0 0)) = false := beq_eq_false_iff_ne.mpr c15
                        have c15b1 : ((rd l0_0 x3_2) != (rd l0_0 0)) = true := bne_iff_ne.mpr c15
                        have H' := Aside0.mk H
                        clear H
                        have hcz17_0 : wr.cell? ⟨gb153, 0, none⟩ = some (.slice A0_0 l0_0.length c0_0) := (blk_cell BK153.out 0).trans rfl
                        have hcz17_1 : wr.cell? ⟨gb153, 1, none⟩ = some (.slice A0_1 l0_1.length c0_1) := (blk_cell BK153.out 1).trans rfl
                        have hfz17_0 := fz1 BK153
                        have hfz17_1 := blk_frozen BK153.out 1
                        have p155 : 0 ≤ (x3_2 : Int) := odt
                        have q155 : x3_2 < (l0_0.length : Int) := odt
                        obtain ⟨ad155, e155, hx155_0⟩ := Kd.at_int HR0_0.out x3_2 p155 q155
                        cases e155
                        replace hx155_0 := (HB.out.cell (World.block_lt_of_cell? w _ hx155_0)).trans hx155_0
                        replace p155 := eq_true p155
                        replace q155 := eq_true q155
                        go_wp2_with (first | (go_at_call 68; (with_reducible refine (spec_l01In.calls (rd l0_0 x3_2) 1 60 true _ A11.out).mono ?_); rintro e w' ⟨rfl, ⟨nd, rfl⟩⟩; (try first | exact ⟨rfl, _, World.drewN_drewN _ _ _⟩ | exact ⟨rfl, _, Eq.trans (World.drewN_drewN _ _ _) (congrArg (World.drewN _) (Nat.add_assoc _ _ _))⟩); have p157 : 0 ≤ (x3_2 : Int) := odt; have q157 : x3_2 < (l0_0.length : Int) := odt; obtain ⟨ad157, e157, hx157_0⟩ := Kd.at_int HR0_0.out x3_2 p157 q157; obtain rfl : ad155 = ad157 := (by injection e157); replace hx157_0 := (HB.out.cell (World.block_lt_of_cell? w _ hx157_0)).trans hx157_0; replace p157 := eq_true p157; replace q157 := eq_true q157; have p158 : 0 ≤ (0 : Int) := (by omega); have q158 : 0 < (l0_0.length : Int) := odt; obtain ⟨ad158, e158, hx158_0⟩ := Kd.at_int HR0_0.out 0 p158 q158; obtain rfl : ad155 = ad158 := (by injection e158); have qi158 : (0 < l0_0.length) = True := eq_true (by omega); (try rw [show ((0 : Int)).toNat = 0 from rfl] at hx158_0); (try rw [Addr.add_zero'] at hx158_0); replace hx158_0 := (HB.out.cell (World.block_lt_of_cell? w _ hx158_0)).trans hx158_0; replace p158 := eq_true p158; replace q158 := eq_true q158))
                        repeat (go_quiet (first | (go_at_call 68; (with_reducible refine (spec_l01In.calls (rd l0_0 x3_2) 1 60 true _ A11.out).mono ?_); rintro e w' ⟨rfl, ⟨nd, rfl⟩⟩; (try first | exact ⟨rfl, _, World.drewN_drewN _ _ _⟩ | exact ⟨rfl, _, Eq.trans (World.drewN_drewN _ _ _) (congrArg (World.drewN _) (Nat.add_assoc _ _ _))⟩); have p157 : 0 ≤ (x3_2 : Int) := odt; have q157 : x3_2 < (l0_0.length : Int) := odt; obtain ⟨ad157, e157, hx157_0⟩ := Kd.at_int HR0_0.out x3_2 p157 q157; obtain rfl : ad155 = ad157 := (by injection e157); replace hx157_0 := (HB.out.cell (World.block_lt_of_cell? w _ hx157_0)).trans hx157_0; replace p157 := eq_true p157; replace q157 := eq_true q157; have p158 : 0 ≤ (0 : Int) := (by omega); have q158 : 0 < (l0_0.length : Int) := odt; obtain ⟨ad158, e158, hx158_0⟩ := Kd.at_int HR0_0.out 0 p158 q158; obtain rfl : ad155 = ad158 := (by injection e158); have qi158 : (0 < l0_0.length) = True := eq_true (by omega); (try rw [show ((0 : Int)).toNat = 0 from rfl] at hx158_0); (try rw [Addr.add_zero'] at hx158_0); replace hx158_0 := (HB.out.cell (World.block_lt_of_cell? w _ hx158_0)).trans hx158_0; replace p158 := eq_true p158; replace q158 := eq_true q158)); try go_wp2_with (first | (go_at_call 68; (with_reducible refine (spec_l01In.calls (rd l0_0 x3_2) 1 60 true _ A11.out).mono ?_); rintro e w' ⟨rfl, ⟨nd, rfl⟩⟩; (try first | exact ⟨rfl, _, World.drewN_drewN _ _ _⟩ | exact ⟨rfl, _, Eq.trans (World.drewN_drewN _ _ _) (congrArg (World.drewN _) (Nat.add_assoc _ _ _))⟩); have p157 : 0 ≤ (x3_2 : Int) := odt; have q157 : x3_2 < (l0_0.length : Int) := odt; obtain ⟨ad157, e157, hx157_0⟩ := Kd.at_int HR0_0.out x3_2 p157 q157; obtain rfl : ad155 = ad157 := (by injection e157); replace hx157_0 := (HB.out.cell (World.block_lt_of_cell? w _ hx157_0)).trans hx157_0; replace p157 := eq_true p157; replace q157 := eq_true q157; have p158 : 0 ≤ (0 : Int) := (by omega); have q158 : 0 < (l0_0.length : Int) := odt; obtain ⟨ad158, e158, hx158_0⟩ := Kd.at_int HR0_0.out 0 p158 q158; obtain rfl : ad155 = ad158 := (by injection e158); have qi158 : (0 < l0_0.length) = True := eq_true (by omega); (try rw [show ((0 : Int)).toNat = 0 from rfl] at hx158_0); (try rw [Addr.add_zero'] at hx158_0); replace hx158_0 := (HB.out.cell (World.block_lt_of_cell? w _ hx158_0)).trans hx158_0; replace p158 := eq_true p158; replace q158 := eq_true q158)))
                        go_roundg k2
                        case measure => have := HJ1.out; have := HK2.out; omega
                        case rel => exact ⟨(wrap64 (x3_2 + 1)), vE, H', ⟨by have := HJ1.out; have := HK2.out; omega⟩, ⟨by (with_reducible repeat (first | refine blk_drewN ?_ _ | refine blk_drew ?_ | refine blk_alloc ?_ _)); exact BK153.out⟩, ⟨bW⟩⟩
                    · rw [if_neg c14] at H
                      exact absurd H (by simp)
                  · rw [if_neg c13] at H
                    have c13b0 : decide (0 < x3_2) = false := decide_eq_false c13
                    clear c13
                    have H' := Aside0.mk H
                    clear H
                    have hcz18_0 : wr.cell? ⟨gb153, 0, none⟩ = some (.slice A0_0 l0_0.length c0_0) := (blk_cell BK153.out 0).trans rfl
                    have hcz18_1 : wr.cell? ⟨gb153, 1, none⟩ = some (.slice A0_1 l0_1.length c0_1) := (blk_cell BK153.out 1).trans rfl
                    have hfz18_0 := blk_frozen BK153.out 0
                    have hfz18_1 := blk_frozen BK153.out 1
                    have p155 : 0 ≤ (x3_2 : Int) := odt
                    have q155 : x3_2 < (l0_0.length : Int) := odt
                    obtain ⟨ad155, e155, hx155_0⟩ := Kd.at_int HR0_0.out x3_2 p155 q155
                    cases e155
                    replace hx155_0 := (HB.out.cell (World.block_lt_of_cell? w _ hx155_0)).trans hx155_0
                    replace p155 := eq_true p155
                    replace q155 := eq_true q155
                    go_wp2_with (first | (go_at_call 68; (with_reducible refine (spec_l01In.calls (rd l0_0 x3_2) 1 60 true _ A11.out).mono ?_); rintro e w' ⟨rfl, ⟨nd, rfl⟩⟩; (try first | exact ⟨rfl, _, World.drewN_drewN _ _ _⟩ | exact ⟨rfl, _, Eq.trans (World.drewN_drewN _ _ _) (congrArg (World.drewN _) (Nat.add_assoc _ _ _))⟩)))
                    repeat (go_quiet (first | (go_at_call 68; (with_reducible refine (spec_l01In.calls (rd l0_0 x3_2) 1 60 true _ A11.out).mono ?_); rintro e w' ⟨rfl, ⟨nd, rfl⟩⟩; (try first | exact ⟨rfl, _, World.drewN_drewN _ _ _⟩ | exact ⟨rfl, _, Eq.trans (World.drewN_drewN _ _ _) (congrArg (World.drewN _) (Nat.add_assoc _ _ _))⟩))); try go_wp2_with (first | (go_at_call 68; (with_reducible refine (spec_l01In.calls (rd l0_0 x3_2) 1 60 true _ A11.out).mono ?_); rintro e w' ⟨rfl, ⟨nd, rfl⟩⟩; (try first | exact ⟨rfl, _, World.drewN_drewN _ _ _⟩ | exact ⟨rfl, _, Eq.trans (World.drewN_drewN _ _ _) (congrArg (World.drewN _) (Nat.add_assoc _ _ _))⟩))))
                    go_roundg k2
                    case measure => have := HJ1.out; have := HK2.out; omega
                    case rel => exact ⟨(wrap64 (x3_2 + 1)), vE, H', ⟨by have := HJ1.out; have := HK2.out; omega⟩, ⟨by (with_reducible repeat (first | refine blk_drewN ?_ _ | refine blk_drew ?_ | refine blk_alloc ?_ _)); exact BK153.out⟩, ⟨bW⟩⟩
                · replace c12 := Bool.eq_false_iff.mpr c12
                  subst c12
                  have H1 : (some false) = some r := by rw [if_neg (show ¬ (false = true) by decide)] at H; exact H
                  clear H
                  have H := H1
                  clear H1
                  obtain rfl := Option.some.inj H
                  have hcz19_0 : wr.cell? ⟨gb153, 0, none⟩ = some (.slice A0_0 l0_0.length c0_0) := (blk_cell BK153.out 0).trans rfl
                  have hcz19_1 : wr.cell? ⟨gb153, 1, none⟩ = some (.slice A0_1 l0_1.length c0_1) := (blk_cell BK153.out 1).trans rfl
                  have hfz19_0 := blk_frozen BK153.out 0
                  have hfz19_1 := blk_frozen BK153.out 1
                  have p155 : 0 ≤ (x3_2 : Int) := odt
                  have q155 : x3_2 < (l0_0.length : Int) := odt
                  obtain ⟨ad155, e155, hx155_0⟩ := Kd.at_int HR0_0.out x3_2 p155 q155
                  cases e155
                  replace hx155_0 := (HB.out.cell (World.block_lt_of_cell? w _ hx155_0)).trans hx155_0
                  replace p155 := eq_true p155
                  replace q155 := eq_true q155
                  go_wp2_with (first | (go_at_call 68; (with_reducible refine (spec_l01In.calls (rd l0_0 x3_2) 1 60 false _ A11.out).mono ?_); rintro e w' ⟨rfl, ⟨nd, rfl⟩⟩; (try first | exact ⟨rfl, _, World.drewN_drewN _ _ _⟩ | exact ⟨rfl, _, Eq.trans (World.drewN_drewN _ _ _) (congrArg (World.drewN _) (Nat.add_assoc _ _ _))⟩)))
                  repeat (go_quiet (first | (go_at_call 68; (with_reducible refine (spec_l01In.calls (rd l0_0 x3_2) 1 60 false _ A11.out).mono ?_); rintro e w' ⟨rfl, ⟨nd, rfl⟩⟩; (try first | exact ⟨rfl, _, World.drewN_drewN _ _ _⟩ | exact ⟨rfl, _, Eq.trans (World.drewN_drewN _ _ _) (congrArg (World.drewN _) (Nat.add_assoc _ _ _))⟩))); try go_wp2_with (first | (go_at_call 68; (with_reducible refine (spec_l01In.calls (rd l0_0 x3_2) 1 60 false _ A11.out).mono ?_); rintro e w' ⟨rfl, ⟨nd, rfl⟩⟩; (try first | exact ⟨rfl, _, World.drewN_drewN _ _ _⟩ | exact ⟨rfl, _, Eq.trans (World.drewN_drewN _ _ _) (congrArg (World.drewN _) (Nat.add_assoc _ _ _))⟩))))
                  go_ret
                  exact ⟨rE, bW⟩
              · rw [if_neg c10] at H
                exact absurd H (by simp)
            · rw [if_neg c9] at H
              have c9b0 : decide (x3_2 < (l0_0.length : Int)) = false := decide_eq_false c9
              clear c9
              obtain rfl := Option.some.inj H
              have hcz20_0 : wr.cell? ⟨gb153, 0, none⟩ = some (.slice A0_0 l0_0.length c0_0) := (blk_cell BK153.out 0).trans rfl
              have hcz20_1 : wr.cell? ⟨gb153, 1, none⟩ = some (.slice A0_1 l0_1.length c0_1) := (blk_cell BK153.out 1).trans rfl
              have hfz20_0 := blk_frozen BK153.out 0
              have hfz20_1 := blk_frozen BK153.out 1
              go_wp2
              repeat (go_quiet (fail); try go_wp2)
              go_ret
              exact ⟨rE, bW⟩
end Go.Proofs.Ytjkjnfooaglnkaa.Q
end

section
namespace Go.Proofs.Ytjkjnfooaglnkaa.Q
open Go.RowKit Go.Proofs.YtjkjnfooaglnkaaW.PrintWords Go.Proofs.YtjkjnfooaglnkaaW.PrintLast Go.Proofs.YtjkjnfooaglnkaaW.PrintMore
attribute [local go_sem] max2_int min2_int max_two min_two max_three min_three max_four min_four   -- for this text's walks alone
set_option linter.unusedVariables false
set_option linter.unusedSimpArgs false
attribute [local go_sem] bin_leq bin_gtr bin_geq
def spec_DecodeCommit.f (k : Nat) (a0 : ByteArray) : Option (List Int × (List (S90)) × Int) := if (a0.size : Int) > 65536 then some ([], [], 2) else ((spec_l11Reader_commit.f k a0 0 false).bind fun q_ => if q_.2.2.2.2 = true then some ([], [], 3) else if (q_.2.2.2.1 != (a0.size : Int)) = true then some ([], [], 3) else ((spec_l11Loose.f k q_.1 q_.2.1).bind fun o_ => if o_ = true then some (q_.1, q_.2.1, 0) else some ([], [], 3)))
set_option maxHeartbeats 8000000 in
set_option maxRecDepth 100000 in
theorem spec_DecodeCommit.calls (k : Nat) (a0 : ByteArray) (r1 : List Int) (r2 : List (S90)) (r3 : Int) (w : World) (h : spec_DecodeCommit.f k a0 = some (r1, r2, r3)) :
    Calls Try.prog 6 #[.string a0] w fun e w' => ∃ v0_ v1_ : Value, e = .returned (.tuple #[.agg #[v0_, v1_], .int .i64 r3]) ∧ Kd.R (Kd.int .i64) 3 w' w.heap.size (fun _ => True) v0_ r1 ∧ Kd.R k90 90 w' w.heap.size (fun _ => True) v1_ r2 ∧ Below w.heap.size w w' := by
  unfold spec_DecodeCommit.f at h
  have hu := Try.underlying25
  have HB := Aside0.mk (Below.refl w.heap.size w)
  by_cases c0 : (a0.size : Int) > 65536
  · rw [if_pos c0] at h
    have c0b : decide ((a0.size : Int) > 65536) = true := decide_eq_true c0
    simp only [Option.some.injEq, Prod.mk.injEq] at h
    obtain ⟨rfl, rfl, rfl⟩ := h
    go_enter Try.func6, Try.ntmps6
    go_wp2_with (first | ((with_reducible refine gate_dst (N := 2) rfl ?_); refine bE (N := 2) (cs := #[.slice none 0 0, .slice none 0 0]) (t := 25) ?_; intro gb2 hg w3 hbox hb; have n1_ := Aside0.mk (below_step (w := w) bW hb); have BK2 := Aside0.mk hbox; have GE2 := Aside0.mk (gS (w := w) hg); have NB2 := Aside0.mk (show gb2 ≠ w3.heap.size from Nat.ne_of_lt (blk_lt hbox)); clear HB; have HB := n1_; clear n1_ hb hbox hg; obtain ⟨hz0, hz1⟩ := cz2 BK2; obtain ⟨hf0, hf1⟩ := fz2 BK2))
    repeat (go_quiet (first | ((with_reducible refine gate_dst (N := 2) rfl ?_); refine bE (N := 2) (cs := #[.slice none 0 0, .slice none 0 0]) (t := 25) ?_; intro gb2 hg w3 hbox hb; have n1_ := Aside0.mk (below_step (w := w) bW hb); have BK2 := Aside0.mk hbox; have GE2 := Aside0.mk (gS (w := w) hg); have NB2 := Aside0.mk (show gb2 ≠ w3.heap.size from Nat.ne_of_lt (blk_lt hbox)); clear HB; have HB := n1_; clear n1_ hb hbox hg; obtain ⟨hz0, hz1⟩ := cz2 BK2; obtain ⟨hf0, hf1⟩ := fz2 BK2)); try go_wp2_with (first | ((with_reducible refine gate_dst (N := 2) rfl ?_); refine bE (N := 2) (cs := #[.slice none 0 0, .slice none 0 0]) (t := 25) ?_; intro gb2 hg w3 hbox hb; have n1_ := Aside0.mk (below_step (w := w) bW hb); have BK2 := Aside0.mk hbox; have GE2 := Aside0.mk (gS (w := w) hg); have NB2 := Aside0.mk (show gb2 ≠ w3.heap.size from Nat.ne_of_lt (blk_lt hbox)); clear HB; have HB := n1_; clear n1_ hb hbox hg; obtain ⟨hz0, hz1⟩ := cz2 BK2; obtain ⟨hf0, hf1⟩ := fz2 BK2)))
    refine bodyPost_ret (results_ct rfl _ _ gb2 25 #[.slice none 0 0, .slice none 0 0] (0, 0) _ rfl (by (with_reducible repeat (first | refine blk_drewN ?_ _ | refine blk_drew ?_ | refine blk_alloc ?_ _)); refine blk_put (cs := #[.slice none 0 0, .slice none 0 0]) ?_ 1 _ rfl; refine blk_put (cs := #[.slice none 0 0, .slice none 0 0]) ?_ 0 _ rfl; (with_reducible repeat (first | refine blk_drewN ?_ _ | refine blk_drew ?_ | refine blk_alloc ?_ _)); exact BK2.out) Try.underlying25 rfl (by kernel_rfl)) rfl ?_
    exact ⟨_, _, rfl, Kd.R_nil _ _ _ _ _, Kd.R_nil _ _ _ _ _, by repeat (first | exact HB.out | refine below_set ?_ GE2.out | refine below_set ?_ GE5.out | apply below_alloc | apply pw_below_drewN | apply below_drew1)⟩
  · rw [if_neg c0] at h
    have c0b : decide ((a0.size : Int) > 65536) = false := decide_eq_false c0
    obtain ⟨⟨q1, q2, q3, q4, q5⟩, h1, h⟩ := Option.bind_eq_some_iff.mp h
    have A1 := Aside0.mk h1
    clear h1
    simp only at h
    cases q5 with
    | true =>
      simp only [if_true, Option.some.injEq, Prod.mk.injEq] at h
      obtain ⟨rfl, rfl, rfl⟩ := h
      go_enter Try.func6, Try.ntmps6
      go_wp2_with (first | ((with_reducible refine gate_dst (N := 2) rfl ?_); refine bE (N := 2) (cs := #[.slice none 0 0, .slice none 0 0]) (t := 25) ?_; intro gb2 hg w3 hbox hb; have n1_ := Aside0.mk (below_step (w := w) bW hb); have BK2 := Aside0.mk hbox; have GE2 := Aside0.mk (gS (w := w) hg); have NB2 := Aside0.mk (show gb2 ≠ w3.heap.size from Nat.ne_of_lt (blk_lt hbox)); clear HB; have HB := n1_; clear n1_ hb hbox hg; obtain ⟨hz0, hz1⟩ := cz2 BK2; obtain ⟨hf0, hf1⟩ := fz2 BK2) | (go_at_call 29; (with_reducible refine (spec_l11Reader_commit.calls k _ a0 0 false q1 q2 q3 q4 true w _ ?ci ?cb A1.out).mono ?_); (case ci => repeat (first | (with_reducible apply IsS60.drewN) | (with_reducible apply IsS60.drew) | (exact IsS60.new w _ a0 0 false (by repeat (first | exact HB.out | apply below_alloc | apply pw_below_drewN | apply below_drew1))))); (case cb => exact (by repeat (first | exact HB.out | apply below_alloc | apply pw_below_drewN | apply below_drew1))); rintro e w5 ⟨v0, v1, rfl, ho0, ho1, hi, hb, hk⟩; have n0_ := Aside0.mk (Kd.R_lower ho0 (below_size (w := w) (by repeat (first | exact HB.out | apply below_alloc | apply pw_below_drewN | apply below_drew1)))); have n1_ := Aside0.mk (Kd.R_lower ho1 (below_size (w := w) (by repeat (first | exact HB.out | apply below_alloc | apply pw_below_drewN | apply below_drew1)))); have n2_ := Aside0.mk (KeepBut.blk hk (g' := gb2) (o := .cells #[.slice none 0 0, .slice none 0 0] 25 (0, 0)) (kB BK2) NB2.out (by simp)); have n3_ := Aside0.mk hb; have n4_ := Aside0.mk hi; clear BK2 HB; have HO0 := n0_; have HO1 := n1_; have BK2 := n2_; have HB := n3_; have HI := n4_; clear n0_ n1_ n2_ n3_ n4_ ho0 ho1 hi hb hk; obtain ⟨Ao0, co0, eo0⟩ := Kd.R_slice HO0.out; subst eo0; obtain ⟨Ao1, co1, eo1⟩ := Kd.R_slice HO1.out; subst eo1) | ((with_reducible refine gate_dst (N := 5) rfl ?_); refine bE (N := 5) (cs := #[.slice none 0 0, .slice none 0 0]) (t := 25) ?_; intro gb5 hg w6 hbox hb; have NB5 := Aside0.mk (show w3.heap.size ≠ gb5 by rw [hg]; exact Nat.ne_of_lt (IsS60.lt HI.out)); have NB25 := Aside0.mk (nL BK2 hg); have GE5 := Aside0.mk (gS (w := w) hg); have n0_ := Aside0.mk (Kd.R_types (Kd.R_below HO0.out hb) hbox (by decide)); have n1_ := Aside0.mk (Kd.R_types (Kd.R_below HO1.out hb) hbox (by decide)); have n2_ := Aside0.mk (kb BK2 hb); have n3_ := Aside0.mk (below_step (w := w) bW hb); have n4_ := Aside0.mk (IsS60.below HI.out hb); have BK5 := Aside0.mk hbox; clear HO0 HO1 BK2 HB HI; have HO0 := n0_; have HO1 := n1_; have BK2 := n2_; have HB := n3_; have HI := n4_; clear n0_ n1_ n2_ n3_ n4_ hb hbox hg; obtain ⟨hy0, hy1⟩ := cz2 BK5; obtain ⟨hg0, hg1⟩ := fz2 BK5; have hr1 := cellS60_1 (IsS60.far (p := ⟨gb5, 1, none⟩) (IsS60.far (p := ⟨gb5, 0, none⟩) HI.out NB5.out (.slice Ao0 q1.length co0)) NB5.out (.slice Ao1 q2.length co1)).1; have hr2 := cellS60_2 (IsS60.far (p := ⟨gb5, 1, none⟩) (IsS60.far (p := ⟨gb5, 0, none⟩) HI.out NB5.out (.slice Ao0 q1.length co0)) NB5.out (.slice Ao1 q2.length co1)).1; have BKP : ((w6.setCell ⟨gb5, 0, none⟩ (.slice Ao0 q1.length co0)).setCell ⟨gb5, 1, none⟩ (.slice Ao1 q2.length co1)).heap[gb5]? = some (.cells #[.slice Ao0 q1.length co0, .slice Ao1 q2.length co1] 25 (0, 0)) := (blk_put (cs := #[.slice Ao0 q1.length co0, .slice none 0 0]) (blk_put (cs := #[.slice none 0 0, .slice none 0 0]) BK5.out 0 _ rfl) 1 _ rfl); obtain ⟨hx0, hx1⟩ := cz2 (Aside0.mk BKP); clear BKP; have BKQ : ((w6.setCell ⟨gb5, 0, none⟩ (.slice Ao0 q1.length co0)).setCell ⟨gb5, 1, none⟩ (.slice Ao1 q2.length co1)).heap[gb2]? = some (.cells #[.slice none 0 0, .slice none 0 0] 25 (0, 0)) := blk_far (p := ⟨gb5, 1, none⟩) (blk_far (p := ⟨gb5, 0, none⟩) BK2.out NB25.out _) NB25.out _; obtain ⟨hz0_, hz1_⟩ := cz2 (Aside0.mk BKQ); obtain ⟨hf0_, hf1_⟩ := fz2 (Aside0.mk BKQ); clear BKQ))
      repeat (go_quiet (first | ((with_reducible refine gate_dst (N := 2) rfl ?_); refine bE (N := 2) (cs := #[.slice none 0 0, .slice none 0 0]) (t := 25) ?_; intro gb2 hg w3 hbox hb; have n1_ := Aside0.mk (below_step (w := w) bW hb); have BK2 := Aside0.mk hbox; have GE2 := Aside0.mk (gS (w := w) hg); have NB2 := Aside0.mk (show gb2 ≠ w3.heap.size from Nat.ne_of_lt (blk_lt hbox)); clear HB; have HB := n1_; clear n1_ hb hbox hg; obtain ⟨hz0, hz1⟩ := cz2 BK2; obtain ⟨hf0, hf1⟩ := fz2 BK2) | (go_at_call 29; (with_reducible refine (spec_l11Reader_commit.calls k _ a0 0 false q1 q2 q3 q4 true w _ ?ci ?cb A1.out).mono ?_); (case ci => repeat (first | (with_reducible apply IsS60.drewN) | (with_reducible apply IsS60.drew) | (exact IsS60.new w _ a0 0 false (by repeat (first | exact HB.out | apply below_alloc | apply pw_below_drewN | apply below_drew1))))); (case cb => exact (by repeat (first | exact HB.out | apply below_alloc | apply pw_below_drewN | apply below_drew1))); rintro e w5 ⟨v0, v1, rfl, ho0, ho1, hi, hb, hk⟩; have n0_ := Aside0.mk (Kd.R_lower ho0 (below_size (w := w) (by repeat (first | exact HB.out | apply below_alloc | apply pw_below_drewN | apply below_drew1)))); have n1_ := Aside0.mk (Kd.R_lower ho1 (below_size (w := w) (by repeat (first | exact HB.out | apply below_alloc | apply pw_below_drewN | apply below_drew1)))); have n2_ := Aside0.mk (KeepBut.blk hk (g' := gb2) (o := .cells #[.slice none 0 0, .slice none 0 0] 25 (0, 0)) (kB BK2) NB2.out (by simp)); have n3_ := Aside0.mk hb; have n4_ := Aside0.mk hi; clear BK2 HB; have HO0 := n0_; have HO1 := n1_; have BK2 := n2_; have HB := n3_; have HI := n4_; clear n0_ n1_ n2_ n3_ n4_ ho0 ho1 hi hb hk; obtain ⟨Ao0, co0, eo0⟩ := Kd.R_slice HO0.out; subst eo0; obtain ⟨Ao1, co1, eo1⟩ := Kd.R_slice HO1.out; subst eo1) | ((with_reducible refine gate_dst (N := 5) rfl ?_); refine bE (N := 5) (cs := #[.slice none 0 0, .slice none 0 0]) (t := 25) ?_; intro gb5 hg w6 hbox hb; have NB5 := Aside0.mk (show w3.heap.size ≠ gb5 by rw [hg]; exact Nat.ne_of_lt (IsS60.lt HI.out)); have NB25 := Aside0.mk (nL BK2 hg); have GE5 := Aside0.mk (gS (w := w) hg); have n0_ := Aside0.mk (Kd.R_types (Kd.R_below HO0.out hb) hbox (by decide)); have n1_ := Aside0.mk (Kd.R_types (Kd.R_below HO1.out hb) hbox (by decide)); have n2_ := Aside0.mk (kb BK2 hb); have n3_ := Aside0.mk (below_step (w := w) bW hb); have n4_ := Aside0.mk (IsS60.below HI.out hb); have BK5 := Aside0.mk hbox; clear HO0 HO1 BK2 HB HI; have HO0 := n0_; have HO1 := n1_; have BK2 := n2_; have HB := n3_; have HI := n4_; clear n0_ n1_ n2_ n3_ n4_ hb hbox hg; obtain ⟨hy0, hy1⟩ := cz2 BK5; obtain ⟨hg0, hg1⟩ := fz2 BK5; have hr1 := cellS60_1 (IsS60.far (p := ⟨gb5, 1, none⟩) (IsS60.far (p := ⟨gb5, 0, none⟩) HI.out NB5.out (.slice Ao0 q1.length co0)) NB5.out (.slice Ao1 q2.length co1)).1; have hr2 := cellS60_2 (IsS60.far (p := ⟨gb5, 1, none⟩) (IsS60.far (p := ⟨gb5, 0, none⟩) HI.out NB5.out (.slice Ao0 q1.length co0)) NB5.out (.slice Ao1 q2.length co1)).1; have BKP : ((w6.setCell ⟨gb5, 0, none⟩ (.slice Ao0 q1.length co0)).setCell ⟨gb5, 1, none⟩ (.slice Ao1 q2.length co1)).heap[gb5]? = some (.cells #[.slice Ao0 q1.length co0, .slice Ao1 q2.length co1] 25 (0, 0)) := (blk_put (cs := #[.slice Ao0 q1.length co0, .slice none 0 0]) (blk_put (cs := #[.slice none 0 0, .slice none 0 0]) BK5.out 0 _ rfl) 1 _ rfl); obtain ⟨hx0, hx1⟩ := cz2 (Aside0.mk BKP); clear BKP; have BKQ : ((w6.setCell ⟨gb5, 0, none⟩ (.slice Ao0 q1.length co0)).setCell ⟨gb5, 1, none⟩ (.slice Ao1 q2.length co1)).heap[gb2]? = some (.cells #[.slice none 0 0, .slice none 0 0] 25 (0, 0)) := blk_far (p := ⟨gb5, 1, none⟩) (blk_far (p := ⟨gb5, 0, none⟩) BK2.out NB25.out _) NB25.out _; obtain ⟨hz0_, hz1_⟩ := cz2 (Aside0.mk BKQ); obtain ⟨hf0_, hf1_⟩ := fz2 (Aside0.mk BKQ); clear BKQ)); try go_wp2_with (first | ((with_reducible refine gate_dst (N := 2) rfl ?_); refine bE (N := 2) (cs := #[.slice none 0 0, .slice none 0 0]) (t := 25) ?_; intro gb2 hg w3 hbox hb; have n1_ := Aside0.mk (below_step (w := w) bW hb); have BK2 := Aside0.mk hbox; have GE2 := Aside0.mk (gS (w := w) hg); have NB2 := Aside0.mk (show gb2 ≠ w3.heap.size from Nat.ne_of_lt (blk_lt hbox)); clear HB; have HB := n1_; clear n1_ hb hbox hg; obtain ⟨hz0, hz1⟩ := cz2 BK2; obtain ⟨hf0, hf1⟩ := fz2 BK2) | (go_at_call 29; (with_reducible refine (spec_l11Reader_commit.calls k _ a0 0 false q1 q2 q3 q4 true w _ ?ci ?cb A1.out).mono ?_); (case ci => repeat (first | (with_reducible apply IsS60.drewN) | (with_reducible apply IsS60.drew) | (exact IsS60.new w _ a0 0 false (by repeat (first | exact HB.out | apply below_alloc | apply pw_below_drewN | apply below_drew1))))); (case cb => exact (by repeat (first | exact HB.out | apply below_alloc | apply pw_below_drewN | apply below_drew1))); rintro e w5 ⟨v0, v1, rfl, ho0, ho1, hi, hb, hk⟩; have n0_ := Aside0.mk (Kd.R_lower ho0 (below_size (w := w) (by repeat (first | exact HB.out | apply below_alloc | apply pw_below_drewN | apply below_drew1)))); have n1_ := Aside0.mk (Kd.R_lower ho1 (below_size (w := w) (by repeat (first | exact HB.out | apply below_alloc | apply pw_below_drewN | apply below_drew1)))); have n2_ := Aside0.mk (KeepBut.blk hk (g' := gb2) (o := .cells #[.slice none 0 0, .slice none 0 0] 25 (0, 0)) (kB BK2) NB2.out (by simp)); have n3_ := Aside0.mk hb; have n4_ := Aside0.mk hi; clear BK2 HB; have HO0 := n0_; have HO1 := n1_; have BK2 := n2_; have HB := n3_; have HI := n4_; clear n0_ n1_ n2_ n3_ n4_ ho0 ho1 hi hb hk; obtain ⟨Ao0, co0, eo0⟩ := Kd.R_slice HO0.out; subst eo0; obtain ⟨Ao1, co1, eo1⟩ := Kd.R_slice HO1.out; subst eo1) | ((with_reducible refine gate_dst (N := 5) rfl ?_); refine bE (N := 5) (cs := #[.slice none 0 0, .slice none 0 0]) (t := 25) ?_; intro gb5 hg w6 hbox hb; have NB5 := Aside0.mk (show w3.heap.size ≠ gb5 by rw [hg]; exact Nat.ne_of_lt (IsS60.lt HI.out)); have NB25 := Aside0.mk (nL BK2 hg); have GE5 := Aside0.mk (gS (w := w) hg); have n0_ := Aside0.mk (Kd.R_types (Kd.R_below HO0.out hb) hbox (by decide)); have n1_ := Aside0.mk (Kd.R_types (Kd.R_below HO1.out hb) hbox (by decide)); have n2_ := Aside0.mk (kb BK2 hb); have n3_ := Aside0.mk (below_step (w := w) bW hb); have n4_ := Aside0.mk (IsS60.below HI.out hb); have BK5 := Aside0.mk hbox; clear HO0 HO1 BK2 HB HI; have HO0 := n0_; have HO1 := n1_; have BK2 := n2_; have HB := n3_; have HI := n4_; clear n0_ n1_ n2_ n3_ n4_ hb hbox hg; obtain ⟨hy0, hy1⟩ := cz2 BK5; obtain ⟨hg0, hg1⟩ := fz2 BK5; have hr1 := cellS60_1 (IsS60.far (p := ⟨gb5, 1, none⟩) (IsS60.far (p := ⟨gb5, 0, none⟩) HI.out NB5.out (.slice Ao0 q1.length co0)) NB5.out (.slice Ao1 q2.length co1)).1; have hr2 := cellS60_2 (IsS60.far (p := ⟨gb5, 1, none⟩) (IsS60.far (p := ⟨gb5, 0, none⟩) HI.out NB5.out (.slice Ao0 q1.length co0)) NB5.out (.slice Ao1 q2.length co1)).1; have BKP : ((w6.setCell ⟨gb5, 0, none⟩ (.slice Ao0 q1.length co0)).setCell ⟨gb5, 1, none⟩ (.slice Ao1 q2.length co1)).heap[gb5]? = some (.cells #[.slice Ao0 q1.length co0, .slice Ao1 q2.length co1] 25 (0, 0)) := (blk_put (cs := #[.slice Ao0 q1.length co0, .slice none 0 0]) (blk_put (cs := #[.slice none 0 0, .slice none 0 0]) BK5.out 0 _ rfl) 1 _ rfl); obtain ⟨hx0, hx1⟩ := cz2 (Aside0.mk BKP); clear BKP; have BKQ : ((w6.setCell ⟨gb5, 0, none⟩ (.slice Ao0 q1.length co0)).setCell ⟨gb5, 1, none⟩ (.slice Ao1 q2.length co1)).heap[gb2]? = some (.cells #[.slice none 0 0, .slice none 0 0] 25 (0, 0)) := blk_far (p := ⟨gb5, 1, none⟩) (blk_far (p := ⟨gb5, 0, none⟩) BK2.out NB25.out _) NB25.out _; obtain ⟨hz0_, hz1_⟩ := cz2 (Aside0.mk BKQ); obtain ⟨hf0_, hf1_⟩ := fz2 (Aside0.mk BKQ); clear BKQ)))
      refine bodyPost_ret (results_ct rfl _ _ gb2 25 #[.slice none 0 0, .slice none 0 0] (0, 0) _ rfl (by (with_reducible repeat (first | refine blk_drewN ?_ _ | refine blk_drew ?_ | refine blk_alloc ?_ _)); refine blk_put (cs := #[.slice none 0 0, .slice none 0 0]) ?_ 1 _ rfl; refine blk_put (cs := #[.slice none 0 0, .slice none 0 0]) ?_ 0 _ rfl; (with_reducible repeat (first | refine blk_drewN ?_ _ | refine blk_drew ?_ | refine blk_alloc ?_ _)); refine blk_far ?_ NB25.out _; refine blk_far ?_ NB25.out _; exact BK2.out) Try.underlying25 rfl (by kernel_rfl)) rfl ?_
      exact ⟨_, _, rfl, Kd.R_nil _ _ _ _ _, Kd.R_nil _ _ _ _ _, by repeat (first | exact HB.out | refine below_set ?_ GE2.out | refine below_set ?_ GE5.out | apply below_alloc | apply pw_below_drewN | apply below_drew1)⟩
    | false =>
      simp only [Bool.false_eq_true, if_false] at h
      by_cases c1 : (q4 != (a0.size : Int)) = true
      · rw [if_pos c1] at h
        simp only [Option.some.injEq, Prod.mk.injEq] at h
        obtain ⟨rfl, rfl, rfl⟩ := h
        go_enter Try.func6, Try.ntmps6
        go_wp2_with (first | ((with_reducible refine gate_dst (N := 2) rfl ?_); refine bE (N := 2) (cs := #[.slice none 0 0, .slice none 0 0]) (t := 25) ?_; intro gb2 hg w3 hbox hb; have n1_ := Aside0.mk (below_step (w := w) bW hb); have BK2 := Aside0.mk hbox; have GE2 := Aside0.mk (gS (w := w) hg); have NB2 := Aside0.mk (show gb2 ≠ w3.heap.size from Nat.ne_of_lt (blk_lt hbox)); clear HB; have HB := n1_; clear n1_ hb hbox hg; obtain ⟨hz0, hz1⟩ := cz2 BK2; obtain ⟨hf0, hf1⟩ := fz2 BK2) | (go_at_call 29; (with_reducible refine (spec_l11Reader_commit.calls k _ a0 0 false q1 q2 q3 q4 false w _ ?ci ?cb A1.out).mono ?_); (case ci => repeat (first | (with_reducible apply IsS60.drewN) | (with_reducible apply IsS60.drew) | (exact IsS60.new w _ a0 0 false (by repeat (first | exact HB.out | apply below_alloc | apply pw_below_drewN | apply below_drew1))))); (case cb => exact (by repeat (first | exact HB.out | apply below_alloc | apply pw_below_drewN | apply below_drew1))); rintro e w5 ⟨v0, v1, rfl, ho0, ho1, hi, hb, hk⟩; have n0_ := Aside0.mk (Kd.R_lower ho0 (below_size (w := w) (by repeat (first | exact HB.out | apply below_alloc | apply pw_below_drewN | apply below_drew1)))); have n1_ := Aside0.mk (Kd.R_lower ho1 (below_size (w := w) (by repeat (first | exact HB.out | apply below_alloc | apply pw_below_drewN | apply below_drew1)))); have n2_ := Aside0.mk (KeepBut.blk hk (g' := gb2) (o := .cells #[.slice none 0 0, .slice none 0 0] 25 (0, 0)) (kB BK2) NB2.out (by simp)); have n3_ := Aside0.mk hb; have n4_ := Aside0.mk hi; clear BK2 HB; have HO0 := n0_; have HO1 := n1_; have BK2 := n2_; have HB := n3_; have HI := n4_; clear n0_ n1_ n2_ n3_ n4_ ho0 ho1 hi hb hk; obtain ⟨Ao0, co0, eo0⟩ := Kd.R_slice HO0.out; subst eo0; obtain ⟨Ao1, co1, eo1⟩ := Kd.R_slice HO1.out; subst eo1) | ((with_reducible refine gate_dst (N := 5) rfl ?_); refine bE (N := 5) (cs := #[.slice none 0 0, .slice none 0 0]) (t := 25) ?_; intro gb5 hg w6 hbox hb; have NB5 := Aside0.mk (show w3.heap.size ≠ gb5 by rw [hg]; exact Nat.ne_of_lt (IsS60.lt HI.out)); have NB25 := Aside0.mk (nL BK2 hg); have GE5 := Aside0.mk (gS (w := w) hg); have n0_ := Aside0.mk (Kd.R_types (Kd.R_below HO0.out hb) hbox (by decide)); have n1_ := Aside0.mk (Kd.R_types (Kd.R_below HO1.out hb) hbox (by decide)); have n2_ := Aside0.mk (kb BK2 hb); have n3_ := Aside0.mk (below_step (w := w) bW hb); have n4_ := Aside0.mk (IsS60.below HI.out hb); have BK5 := Aside0.mk hbox; clear HO0 HO1 BK2 HB HI; have HO0 := n0_; have HO1 := n1_; have BK2 := n2_; have HB := n3_; have HI := n4_; clear n0_ n1_ n2_ n3_ n4_ hb hbox hg; obtain ⟨hy0, hy1⟩ := cz2 BK5; obtain ⟨hg0, hg1⟩ := fz2 BK5; have hr1 := cellS60_1 (IsS60.far (p := ⟨gb5, 1, none⟩) (IsS60.far (p := ⟨gb5, 0, none⟩) HI.out NB5.out (.slice Ao0 q1.length co0)) NB5.out (.slice Ao1 q2.length co1)).1; have hr2 := cellS60_2 (IsS60.far (p := ⟨gb5, 1, none⟩) (IsS60.far (p := ⟨gb5, 0, none⟩) HI.out NB5.out (.slice Ao0 q1.length co0)) NB5.out (.slice Ao1 q2.length co1)).1; have BKP : ((w6.setCell ⟨gb5, 0, none⟩ (.slice Ao0 q1.length co0)).setCell ⟨gb5, 1, none⟩ (.slice Ao1 q2.length co1)).heap[gb5]? = some (.cells #[.slice Ao0 q1.length co0, .slice Ao1 q2.length co1] 25 (0, 0)) := (blk_put (cs := #[.slice Ao0 q1.length co0, .slice none 0 0]) (blk_put (cs := #[.slice none 0 0, .slice none 0 0]) BK5.out 0 _ rfl) 1 _ rfl); obtain ⟨hx0, hx1⟩ := cz2 (Aside0.mk BKP); clear BKP; have BKQ : ((w6.setCell ⟨gb5, 0, none⟩ (.slice Ao0 q1.length co0)).setCell ⟨gb5, 1, none⟩ (.slice Ao1 q2.length co1)).heap[gb2]? = some (.cells #[.slice none 0 0, .slice none 0 0] 25 (0, 0)) := blk_far (p := ⟨gb5, 1, none⟩) (blk_far (p := ⟨gb5, 0, none⟩) BK2.out NB25.out _) NB25.out _; obtain ⟨hz0_, hz1_⟩ := cz2 (Aside0.mk BKQ); obtain ⟨hf0_, hf1_⟩ := fz2 (Aside0.mk BKQ); clear BKQ))
        repeat (go_quiet (first | ((with_reducible refine gate_dst (N := 2) rfl ?_); refine bE (N := 2) (cs := #[.slice none 0 0, .slice none 0 0]) (t := 25) ?_; intro gb2 hg w3 hbox hb; have n1_ := Aside0.mk (below_step (w := w) bW hb); have BK2 := Aside0.mk hbox; have GE2 := Aside0.mk (gS (w := w) hg); have NB2 := Aside0.mk (show gb2 ≠ w3.heap.size from Nat.ne_of_lt (blk_lt hbox)); clear HB; have HB := n1_; clear n1_ hb hbox hg; obtain ⟨hz0, hz1⟩ := cz2 BK2; obtain ⟨hf0, hf1⟩ := fz2 BK2) | (go_at_call 29; (with_reducible refine (spec_l11Reader_commit.calls k _ a0 0 false q1 q2 q3 q4 false w _ ?ci ?cb A1.out).mono ?_); (case ci => repeat (first | (with_reducible apply IsS60.drewN) | (with_reducible apply IsS60.drew) | (exact IsS60.new w _ a0 0 false (by repeat (first | exact HB.out | apply below_alloc | apply pw_below_drewN | apply below_drew1))))); (case cb => exact (by repeat (first | exact HB.out | apply below_alloc | apply pw_below_drewN | apply below_drew1))); rintro e w5 ⟨v0, v1, rfl, ho0, ho1, hi, hb, hk⟩; have n0_ := Aside0.mk (Kd.R_lower ho0 (below_size (w := w) (by repeat (first | exact HB.out | apply below_alloc | apply pw_below_drewN | apply below_drew1)))); have n1_ := Aside0.mk (Kd.R_lower ho1 (below_size (w := w) (by repeat (first | exact HB.out | apply below_alloc | apply pw_below_drewN | apply below_drew1)))); have n2_ := Aside0.mk (KeepBut.blk hk (g' := gb2) (o := .cells #[.slice none 0 0, .slice none 0 0] 25 (0, 0)) (kB BK2) NB2.out (by simp)); have n3_ := Aside0.mk hb; have n4_ := Aside0.mk hi; clear BK2 HB; have HO0 := n0_; have HO1 := n1_; have BK2 := n2_; have HB := n3_; have HI := n4_; clear n0_ n1_ n2_ n3_ n4_ ho0 ho1 hi hb hk; obtain ⟨Ao0, co0, eo0⟩ := Kd.R_slice HO0.out; subst eo0; obtain ⟨Ao1, co1, eo1⟩ := Kd.R_slice HO1.out; subst eo1) | ((with_reducible refine gate_dst (N := 5) rfl ?_); refine bE (N := 5) (cs := #[.slice none 0 0, .slice none 0 0]) (t := 25) ?_; intro gb5 hg w6 hbox hb; have NB5 := Aside0.mk (show w3.heap.size ≠ gb5 by rw [hg]; exact Nat.ne_of_lt (IsS60.lt HI.out)); have NB25 := Aside0.mk (nL BK2 hg); have GE5 := Aside0.mk (gS (w := w) hg); have n0_ := Aside0.mk (Kd.R_types (Kd.R_below HO0.out hb) hbox (by decide)); have n1_ := Aside0.mk (Kd.R_types (Kd.R_below HO1.out hb) hbox (by decide)); have n2_ := Aside0.mk (kb BK2 hb); have n3_ := Aside0.mk (below_step (w := w) bW hb); have n4_ := Aside0.mk (IsS60.below HI.out hb); have BK5 := Aside0.mk hbox; clear HO0 HO1 BK2 HB HI; have HO0 := n0_; have HO1 := n1_; have BK2 := n2_; have HB := n3_; have HI := n4_; clear n0_ n1_ n2_ n3_ n4_ hb hbox hg; obtain ⟨hy0, hy1⟩ := cz2 BK5; obtain ⟨hg0, hg1⟩ := fz2 BK5; have hr1 := cellS60_1 (IsS60.far (p := ⟨gb5, 1, none⟩) (IsS60.far (p := ⟨gb5, 0, none⟩) HI.out NB5.out (.slice Ao0 q1.length co0)) NB5.out (.slice Ao1 q2.length co1)).1; have hr2 := cellS60_2 (IsS60.far (p := ⟨gb5, 1, none⟩) (IsS60.far (p := ⟨gb5, 0, none⟩) HI.out NB5.out (.slice Ao0 q1.length co0)) NB5.out (.slice Ao1 q2.length co1)).1; have BKP : ((w6.setCell ⟨gb5, 0, none⟩ (.slice Ao0 q1.length co0)).setCell ⟨gb5, 1, none⟩ (.slice Ao1 q2.length co1)).heap[gb5]? = some (.cells #[.slice Ao0 q1.length co0, .slice Ao1 q2.length co1] 25 (0, 0)) := (blk_put (cs := #[.slice Ao0 q1.length co0, .slice none 0 0]) (blk_put (cs := #[.slice none 0 0, .slice none 0 0]) BK5.out 0 _ rfl) 1 _ rfl); obtain ⟨hx0, hx1⟩ := cz2 (Aside0.mk BKP); clear BKP; have BKQ : ((w6.setCell ⟨gb5, 0, none⟩ (.slice Ao0 q1.length co0)).setCell ⟨gb5, 1, none⟩ (.slice Ao1 q2.length co1)).heap[gb2]? = some (.cells #[.slice none 0 0, .slice none 0 0] 25 (0, 0)) := blk_far (p := ⟨gb5, 1, none⟩) (blk_far (p := ⟨gb5, 0, none⟩) BK2.out NB25.out _) NB25.out _; obtain ⟨hz0_, hz1_⟩ := cz2 (Aside0.mk BKQ); obtain ⟨hf0_, hf1_⟩ := fz2 (Aside0.mk BKQ); clear BKQ)); try go_wp2_with (first | ((with_reducible refine gate_dst (N := 2) rfl ?_); refine bE (N := 2) (cs := #[.slice none 0 0, .slice none 0 0]) (t := 25) ?_; intro gb2 hg w3 hbox hb; have n1_ := Aside0.mk (below_step (w := w) bW hb); have BK2 := Aside0.mk hbox; have GE2 := Aside0.mk (gS (w := w) hg); have NB2 := Aside0.mk (show gb2 ≠ w3.heap.size from Nat.ne_of_lt (blk_lt hbox)); clear HB; have HB := n1_; clear n1_ hb hbox hg; obtain ⟨hz0, hz1⟩ := cz2 BK2; obtain ⟨hf0, hf1⟩ := fz2 BK2) | (go_at_call 29; (with_reducible refine (spec_l11Reader_commit.calls k _ a0 0 false q1 q2 q3 q4 false w _ ?ci ?cb A1.out).mono ?_); (case ci => repeat (first | (with_reducible apply IsS60.drewN) | (with_reducible apply IsS60.drew) | (exact IsS60.new w _ a0 0 false (by repeat (first | exact HB.out | apply below_alloc | apply pw_below_drewN | apply below_drew1))))); (case cb => exact (by repeat (first | exact HB.out | apply below_alloc | apply pw_below_drewN | apply below_drew1))); rintro e w5 ⟨v0, v1, rfl, ho0, ho1, hi, hb, hk⟩; have n0_ := Aside0.mk (Kd.R_lower ho0 (below_size (w := w) (by repeat (first | exact HB.out | apply below_alloc | apply pw_below_drewN | apply below_drew1)))); have n1_ := Aside0.mk (Kd.R_lower ho1 (below_size (w := w) (by repeat (first | exact HB.out | apply below_alloc | apply pw_below_drewN | apply below_drew1)))); have n2_ := Aside0.mk (KeepBut.blk hk (g' := gb2) (o := .cells #[.slice none 0 0, .slice none 0 0] 25 (0, 0)) (kB BK2) NB2.out (by simp)); have n3_ := Aside0.mk hb; have n4_ := Aside0.mk hi; clear BK2 HB; have HO0 := n0_; have HO1 := n1_; have BK2 := n2_; have HB := n3_; have HI := n4_; clear n0_ n1_ n2_ n3_ n4_ ho0 ho1 hi hb hk; obtain ⟨Ao0, co0, eo0⟩ := Kd.R_slice HO0.out; subst eo0; obtain ⟨Ao1, co1, eo1⟩ := Kd.R_slice HO1.out; subst eo1) | ((with_reducible refine gate_dst (N := 5) rfl ?_); refine bE (N := 5) (cs := #[.slice none 0 0, .slice none 0 0]) (t := 25) ?_; intro gb5 hg w6 hbox hb; have NB5 := Aside0.mk (show w3.heap.size ≠ gb5 by rw [hg]; exact Nat.ne_of_lt (IsS60.lt HI.out)); have NB25 := Aside0.mk (nL BK2 hg); have GE5 := Aside0.mk (gS (w := w) hg); have n0_ := Aside0.mk (Kd.R_types (Kd.R_below HO0.out hb) hbox (by decide)); have n1_ := Aside0.mk (Kd.R_types (Kd.R_below HO1.out hb) hbox (by decide)); have n2_ := Aside0.mk (kb BK2 hb); have n3_ := Aside0.mk (below_step (w := w) bW hb); have n4_ := Aside0.mk (IsS60.below HI.out hb); have BK5 := Aside0.mk hbox; clear HO0 HO1 BK2 HB HI; have HO0 := n0_; have HO1 := n1_; have BK2 := n2_; have HB := n3_; have HI := n4_; clear n0_ n1_ n2_ n3_ n4_ hb hbox hg; obtain ⟨hy0, hy1⟩ := cz2 BK5; obtain ⟨hg0, hg1⟩ := fz2 BK5; have hr1 := cellS60_1 (IsS60.far (p := ⟨gb5, 1, none⟩) (IsS60.far (p := ⟨gb5, 0, none⟩) HI.out NB5.out (.slice Ao0 q1.length co0)) NB5.out (.slice Ao1 q2.length co1)).1; have hr2 := cellS60_2 (IsS60.far (p := ⟨gb5, 1, none⟩) (IsS60.far (p := ⟨gb5, 0, none⟩) HI.out NB5.out (.slice Ao0 q1.length co0)) NB5.out (.slice Ao1 q2.length co1)).1; have BKP : ((w6.setCell ⟨gb5, 0, none⟩ (.slice Ao0 q1.length co0)).setCell ⟨gb5, 1, none⟩ (.slice Ao1 q2.length co1)).heap[gb5]? = some (.cells #[.slice Ao0 q1.length co0, .slice Ao1 q2.length co1] 25 (0, 0)) := (blk_put (cs := #[.slice Ao0 q1.length co0, .slice none 0 0]) (blk_put (cs := #[.slice none 0 0, .slice none 0 0]) BK5.out 0 _ rfl) 1 _ rfl); obtain ⟨hx0, hx1⟩ := cz2 (Aside0.mk BKP); clear BKP; have BKQ : ((w6.setCell ⟨gb5, 0, none⟩ (.slice Ao0 q1.length co0)).setCell ⟨gb5, 1, none⟩ (.slice Ao1 q2.length co1)).heap[gb2]? = some (.cells #[.slice none 0 0, .slice none 0 0] 25 (0, 0)) := blk_far (p := ⟨gb5, 1, none⟩) (blk_far (p := ⟨gb5, 0, none⟩) BK2.out NB25.out _) NB25.out _; obtain ⟨hz0_, hz1_⟩ := cz2 (Aside0.mk BKQ); obtain ⟨hf0_, hf1_⟩ := fz2 (Aside0.mk BKQ); clear BKQ)))
        refine bodyPost_ret (results_ct rfl _ _ gb2 25 #[.slice none 0 0, .slice none 0 0] (0, 0) _ rfl (by (with_reducible repeat (first | refine blk_drewN ?_ _ | refine blk_drew ?_ | refine blk_alloc ?_ _)); refine blk_put (cs := #[.slice none 0 0, .slice none 0 0]) ?_ 1 _ rfl; refine blk_put (cs := #[.slice none 0 0, .slice none 0 0]) ?_ 0 _ rfl; (with_reducible repeat (first | refine blk_drewN ?_ _ | refine blk_drew ?_ | refine blk_alloc ?_ _)); refine blk_far ?_ NB25.out _; refine blk_far ?_ NB25.out _; exact BK2.out) Try.underlying25 rfl (by kernel_rfl)) rfl ?_
        exact ⟨_, _, rfl, Kd.R_nil _ _ _ _ _, Kd.R_nil _ _ _ _ _, by repeat (first | exact HB.out | refine below_set ?_ GE2.out | refine below_set ?_ GE5.out | apply below_alloc | apply pw_below_drewN | apply below_drew1)⟩
      · rw [if_neg c1] at h
        replace c1 := Bool.eq_false_iff.mpr c1
        obtain ⟨o1, h3, h⟩ := Option.bind_eq_some_iff.mp h
        have A3 := Aside0.mk h3
        clear h3
        cases o1 with
        | false =>
          simp only [Bool.false_eq_true, if_false, Option.some.injEq, Prod.mk.injEq] at h
          obtain ⟨rfl, rfl, rfl⟩ := h
          go_enter Try.func6, Try.ntmps6
          go_wp2_with (first | ((with_reducible refine gate_dst (N := 2) rfl ?_); refine bE (N := 2) (cs := #[.slice none 0 0, .slice none 0 0]) (t := 25) ?_; intro gb2 hg w3 hbox hb; have n1_ := Aside0.mk (below_step (w := w) bW hb); have BK2 := Aside0.mk hbox; have GE2 := Aside0.mk (gS (w := w) hg); have NB2 := Aside0.mk (show gb2 ≠ w3.heap.size from Nat.ne_of_lt (blk_lt hbox)); clear HB; have HB := n1_; clear n1_ hb hbox hg; obtain ⟨hz0, hz1⟩ := cz2 BK2; obtain ⟨hf0, hf1⟩ := fz2 BK2) | (go_at_call 29; (with_reducible refine (spec_l11Reader_commit.calls k _ a0 0 false q1 q2 q3 q4 false w _ ?ci ?cb A1.out).mono ?_); (case ci => repeat (first | (with_reducible apply IsS60.drewN) | (with_reducible apply IsS60.drew) | (exact IsS60.new w _ a0 0 false (by repeat (first | exact HB.out | apply below_alloc | apply pw_below_drewN | apply below_drew1))))); (case cb => exact (by repeat (first | exact HB.out | apply below_alloc | apply pw_below_drewN | apply below_drew1))); rintro e w5 ⟨v0, v1, rfl, ho0, ho1, hi, hb, hk⟩; have n0_ := Aside0.mk (Kd.R_lower ho0 (below_size (w := w) (by repeat (first | exact HB.out | apply below_alloc | apply pw_below_drewN | apply below_drew1)))); have n1_ := Aside0.mk (Kd.R_lower ho1 (below_size (w := w) (by repeat (first | exact HB.out | apply below_alloc | apply pw_below_drewN | apply below_drew1)))); have n2_ := Aside0.mk (KeepBut.blk hk (g' := gb2) (o := .cells #[.slice none 0 0, .slice none 0 0] 25 (0, 0)) (kB BK2) NB2.out (by simp)); have n3_ := Aside0.mk hb; have n4_ := Aside0.mk hi; clear BK2 HB; have HO0 := n0_; have HO1 := n1_; have BK2 := n2_; have HB := n3_; have HI := n4_; clear n0_ n1_ n2_ n3_ n4_ ho0 ho1 hi hb hk; obtain ⟨Ao0, co0, eo0⟩ := Kd.R_slice HO0.out; subst eo0; obtain ⟨Ao1, co1, eo1⟩ := Kd.R_slice HO1.out; subst eo1) | ((with_reducible refine gate_dst (N := 5) rfl ?_); refine bE (N := 5) (cs := #[.slice none 0 0, .slice none 0 0]) (t := 25) ?_; intro gb5 hg w6 hbox hb; have NB5 := Aside0.mk (show w3.heap.size ≠ gb5 by rw [hg]; exact Nat.ne_of_lt (IsS60.lt HI.out)); have NB25 := Aside0.mk (nL BK2 hg); have GE5 := Aside0.mk (gS (w := w) hg); have n0_ := Aside0.mk (Kd.R_types (Kd.R_below HO0.out hb) hbox (by decide)); have n1_ := Aside0.mk (Kd.R_types (Kd.R_below HO1.out hb) hbox (by decide)); have n2_ := Aside0.mk (kb BK2 hb); have n3_ := Aside0.mk (below_step (w := w) bW hb); have n4_ := Aside0.mk (IsS60.below HI.out hb); have BK5 := Aside0.mk hbox; clear HO0 HO1 BK2 HB HI; have HO0 := n0_; have HO1 := n1_; have BK2 := n2_; have HB := n3_; have HI := n4_; clear n0_ n1_ n2_ n3_ n4_ hb hbox hg; obtain ⟨hy0, hy1⟩ := cz2 BK5; obtain ⟨hg0, hg1⟩ := fz2 BK5; have hr1 := cellS60_1 (IsS60.far (p := ⟨gb5, 1, none⟩) (IsS60.far (p := ⟨gb5, 0, none⟩) HI.out NB5.out (.slice Ao0 q1.length co0)) NB5.out (.slice Ao1 q2.length co1)).1; have hr2 := cellS60_2 (IsS60.far (p := ⟨gb5, 1, none⟩) (IsS60.far (p := ⟨gb5, 0, none⟩) HI.out NB5.out (.slice Ao0 q1.length co0)) NB5.out (.slice Ao1 q2.length co1)).1; have BKP : ((w6.setCell ⟨gb5, 0, none⟩ (.slice Ao0 q1.length co0)).setCell ⟨gb5, 1, none⟩ (.slice Ao1 q2.length co1)).heap[gb5]? = some (.cells #[.slice Ao0 q1.length co0, .slice Ao1 q2.length co1] 25 (0, 0)) := (blk_put (cs := #[.slice Ao0 q1.length co0, .slice none 0 0]) (blk_put (cs := #[.slice none 0 0, .slice none 0 0]) BK5.out 0 _ rfl) 1 _ rfl); obtain ⟨hx0, hx1⟩ := cz2 (Aside0.mk BKP); clear BKP; have BKQ : ((w6.setCell ⟨gb5, 0, none⟩ (.slice Ao0 q1.length co0)).setCell ⟨gb5, 1, none⟩ (.slice Ao1 q2.length co1)).heap[gb2]? = some (.cells #[.slice none 0 0, .slice none 0 0] 25 (0, 0)) := blk_far (p := ⟨gb5, 1, none⟩) (blk_far (p := ⟨gb5, 0, none⟩) BK2.out NB25.out _) NB25.out _; obtain ⟨hz0_, hz1_⟩ := cz2 (Aside0.mk BKQ); obtain ⟨hf0_, hf1_⟩ := fz2 (Aside0.mk BKQ); clear BKQ) | (go_at_call 30; (with_reducible refine (spec_l11Loose.calls k _ _ q1 _ _ q2 false _ ?r0 ?s0 ?r1 ?s1 A3.out).mono ?_); (case r0 => exact (Kd.R_reads' (Kd.R_far (p := ⟨gb5, 1, none⟩) (Kd.R_far (p := ⟨gb5, 0, none⟩) HO0.out (fun _ hk => hk.2) (.slice Ao0 q1.length co0)) (fun _ hk => hk.2) (.slice Ao1 q2.length co1))).2.2); (case s0 => exact (Kd.R_reads' (Kd.R_far (p := ⟨gb5, 1, none⟩) (Kd.R_far (p := ⟨gb5, 0, none⟩) HO0.out (fun _ hk => hk.2) (.slice Ao0 q1.length co0)) (fun _ hk => hk.2) (.slice Ao1 q2.length co1))).2.1); (case r1 => exact (Kd.R_reads' (Kd.R_far (p := ⟨gb5, 1, none⟩) (Kd.R_far (p := ⟨gb5, 0, none⟩) HO1.out (fun _ hk => hk.2) (.slice Ao0 q1.length co0)) (fun _ hk => hk.2) (.slice Ao1 q2.length co1))).2.2); (case s1 => exact (Kd.R_reads' (Kd.R_far (p := ⟨gb5, 1, none⟩) (Kd.R_far (p := ⟨gb5, 0, none⟩) HO1.out (fun _ hk => hk.2) (.slice Ao0 q1.length co0)) (fun _ hk => hk.2) (.slice Ao1 q2.length co1))).2.1); rintro e w8 ⟨rfl, hb⟩; have n0_ := Aside0.mk (Kd.R_below (Kd.R_far (p := ⟨gb5, 1, none⟩) (Kd.R_far (p := ⟨gb5, 0, none⟩) HO0.out (fun _ hk => hk.2) (.slice Ao0 q1.length co0)) (fun _ hk => hk.2) (.slice Ao1 q2.length co1)) hb); have n1_ := Aside0.mk (Kd.R_below (Kd.R_far (p := ⟨gb5, 1, none⟩) (Kd.R_far (p := ⟨gb5, 0, none⟩) HO1.out (fun _ hk => hk.2) (.slice Ao0 q1.length co0)) (fun _ hk => hk.2) (.slice Ao1 q2.length co1)) hb); have n2_ := Aside0.mk (blk_below (blk_far (blk_far BK2.out NB25.out _) NB25.out _) hb); have n3_ := Aside0.mk (blk_below (blk_put (cs := #[.slice Ao0 q1.length co0, .slice none 0 0]) (blk_put (cs := #[.slice none 0 0, .slice none 0 0]) BK5.out 0 _ rfl) 1 _ rfl) hb); have n4_ := Aside0.mk (below_step (w := w) (below_set (below_set HB.out GE5.out) GE5.out) hb); clear HO0 HO1 BK2 BK5 HB; have HO0 := n0_; have HO1 := n1_; have BK2 := n2_; have BK5 := n3_; have HB := n4_; clear n0_ n1_ n2_ n3_ n4_ hb; obtain ⟨hx0, hx1⟩ := cz2 BK5; obtain ⟨hz0, hz1⟩ := cz2 BK2; obtain ⟨hf0, hf1⟩ := fz2 BK2))
          repeat (go_quiet (first | ((with_reducible refine gate_dst (N := 2) rfl ?_); refine bE (N := 2) (cs := #[.slice none 0 0, .slice none 0 0]) (t := 25) ?_; intro gb2 hg w3 hbox hb; have n1_ := Aside0.mk (below_step (w := w) bW hb); have BK2 := Aside0.mk hbox; have GE2 := Aside0.mk (gS (w := w) hg); have NB2 := Aside0.mk (show gb2 ≠ w3.heap.size from Nat.ne_of_lt (blk_lt hbox)); clear HB; have HB := n1_; clear n1_ hb hbox hg; obtain ⟨hz0, hz1⟩ := cz2 BK2; obtain ⟨hf0, hf1⟩ := fz2 BK2) | (go_at_call 29; (with_reducible refine (spec_l11Reader_commit.calls k _ a0 0 false q1 q2 q3 q4 false w _ ?ci ?cb A1.out).mono ?_); (case ci => repeat (first | (with_reducible apply IsS60.drewN) | (with_reducible apply IsS60.drew) | (exact IsS60.new w _ a0 0 false (by repeat (first | exact HB.out | apply below_alloc | apply pw_below_drewN | apply below_drew1))))); (case cb => exact (by repeat (first | exact HB.out | apply below_alloc | apply pw_below_drewN | apply below_drew1))); rintro e w5 ⟨v0, v1, rfl, ho0, ho1, hi, hb, hk⟩; have n0_ := Aside0.mk (Kd.R_lower ho0 (below_size (w := w) (by repeat (first | exact HB.out | apply below_alloc | apply pw_below_drewN | apply below_drew1)))); have n1_ := Aside0.mk (Kd.R_lower ho1 (below_size (w := w) (by repeat (first | exact HB.out | apply below_alloc | apply pw_below_drewN | apply below_drew1)))); have n2_ := Aside0.mk (KeepBut.blk hk (g' := gb2) (o := .cells #[.slice none 0 0, .slice none 0 0] 25 (0, 0)) (kB BK2) NB2.out (by simp)); have n3_ := Aside0.mk hb; have n4_ := Aside0.mk hi; clear BK2 HB; have HO0 := n0_; have HO1 := n1_; have BK2 := n2_; have HB := n3_; have HI := n4_; clear n0_ n1_ n2_ n3_ n4_ ho0 ho1 hi hb hk; obtain ⟨Ao0, co0, eo0⟩ := Kd.R_slice HO0.out; subst eo0; obtain ⟨Ao1, co1, eo1⟩ := Kd.R_slice HO1.out; subst eo1) | ((with_reducible refine gate_dst (N := 5) rfl ?_); refine bE (N := 5) (cs := #[.slice none 0 0, .slice none 0 0]) (t := 25) ?_; intro gb5 hg w6 hbox hb; have NB5 := Aside0.mk (show w3.heap.size ≠ gb5 by rw [hg]; exact Nat.ne_of_lt (IsS60.lt HI.out)); have NB25 := Aside0.mk (nL BK2 hg); have GE5 := Aside0.mk (gS (w := w) hg); have n0_ := Aside0.mk (Kd.R_types (Kd.R_below HO0.out hb) hbox (by decide)); have n1_ := Aside0.mk (Kd.R_types (Kd.R_below HO1.out hb) hbox (by decide)); have n2_ := Aside0.mk (kb BK2 hb); have n3_ := Aside0.mk (below_step (w := w) bW hb); have n4_ := Aside0.mk (IsS60.below HI.out hb); have BK5 := Aside0.mk hbox; clear HO0 HO1 BK2 HB HI; have HO0 := n0_; have HO1 := n1_; have BK2 := n2_; have HB := n3_; have HI := n4_; clear n0_ n1_ n2_ n3_ n4_ hb hbox hg; obtain ⟨hy0, hy1⟩ := cz2 BK5; obtain ⟨hg0, hg1⟩ := fz2 BK5; have hr1 := cellS60_1 (IsS60.far (p := ⟨gb5, 1, none⟩) (IsS60.far (p := ⟨gb5, 0, none⟩) HI.out NB5.out (.slice Ao0 q1.length co0)) NB5.out (.slice Ao1 q2.length co1)).1; have hr2 := cellS60_2 (IsS60.far (p := ⟨gb5, 1, none⟩) (IsS60.far (p := ⟨gb5, 0, none⟩) HI.out NB5.out (.slice Ao0 q1.length co0)) NB5.out (.slice Ao1 q2.length co1)).1; have BKP : ((w6.setCell ⟨gb5, 0, none⟩ (.slice Ao0 q1.length co0)).setCell ⟨gb5, 1, none⟩ (.slice Ao1 q2.length co1)).heap[gb5]? = some (.cells #[.slice Ao0 q1.length co0, .slice Ao1 q2.length co1] 25 (0, 0)) := (blk_put (cs := #[.slice Ao0 q1.length co0, .slice none 0 0]) (blk_put (cs := #[.slice none 0 0, .slice none 0 0]) BK5.out 0 _ rfl) 1 _ rfl); obtain ⟨hx0, hx1⟩ := cz2 (Aside0.mk BKP); clear BKP; have BKQ : ((w6.setCell ⟨gb5, 0, none⟩ (.slice Ao0 q1.length co0)).setCell ⟨gb5, 1, none⟩ (.slice Ao1 q2.length co1)).heap[gb2]? = some (.cells #[.slice none 0 0, .slice none 0 0] 25 (0, 0)) := blk_far (p := ⟨gb5, 1, none⟩) (blk_far (p := ⟨gb5, 0, none⟩) BK2.out NB25.out _) NB25.out _; obtain ⟨hz0_, hz1_⟩ := cz2 (Aside0.mk BKQ); obtain ⟨hf0_, hf1_⟩ := fz2 (Aside0.mk BKQ); clear BKQ) | (go_at_call 30; (with_reducible refine (spec_l11Loose.calls k _ _ q1 _ _ q2 false _ ?r0 ?s0 ?r1 ?s1 A3.out).mono ?_); (case r0 => exact (Kd.R_reads' (Kd.R_far (p := ⟨gb5, 1, none⟩) (Kd.R_far (p := ⟨gb5, 0, none⟩) HO0.out (fun _ hk => hk.2) (.slice Ao0 q1.length co0)) (fun _ hk => hk.2) (.slice Ao1 q2.length co1))).2.2); (case s0 => exact (Kd.R_reads' (Kd.R_far (p := ⟨gb5, 1, none⟩) (Kd.R_far (p := ⟨gb5, 0, none⟩) HO0.out (fun _ hk => hk.2) (.slice Ao0 q1.length co0)) (fun _ hk => hk.2) (.slice Ao1 q2.length co1))).2.1); (case r1 => exact (Kd.R_reads' (Kd.R_far (p := ⟨gb5, 1, none⟩) (Kd.R_far (p := ⟨gb5, 0, none⟩) HO1.out (fun _ hk => hk.2) (.slice Ao0 q1.length co0)) (fun _ hk => hk.2) (.slice Ao1 q2.length co1))).2.2); (case s1 => exact (Kd.R_reads' (Kd.R_far (p := ⟨gb5, 1, none⟩) (Kd.R_far (p := ⟨gb5, 0, none⟩) HO1.out (fun _ hk => hk.2) (.slice Ao0 q1.length co0)) (fun _ hk => hk.2) (.slice Ao1 q2.length co1))).2.1); rintro e w8 ⟨rfl, hb⟩; have n0_ := Aside0.mk (Kd.R_below (Kd.R_far (p := ⟨gb5, 1, none⟩) (Kd.R_far (p := ⟨gb5, 0, none⟩) HO0.out (fun _ hk => hk.2) (.slice Ao0 q1.length co0)) (fun _ hk => hk.2) (.slice Ao1 q2.length co1)) hb); have n1_ := Aside0.mk (Kd.R_below (Kd.R_far (p := ⟨gb5, 1, none⟩) (Kd.R_far (p := ⟨gb5, 0, none⟩) HO1.out (fun _ hk => hk.2) (.slice Ao0 q1.length co0)) (fun _ hk => hk.2) (.slice Ao1 q2.length co1)) hb); have n2_ := Aside0.mk (blk_below (blk_far (blk_far BK2.out NB25.out _) NB25.out _) hb); have n3_ := Aside0.mk (blk_below (blk_put (cs := #[.slice Ao0 q1.length co0, .slice none 0 0]) (blk_put (cs := #[.slice none 0 0, .slice none 0 0]) BK5.out 0 _ rfl) 1 _ rfl) hb); have n4_ := Aside0.mk (below_step (w := w) (below_set (below_set HB.out GE5.out) GE5.out) hb); clear HO0 HO1 BK2 BK5 HB; have HO0 := n0_; have HO1 := n1_; have BK2 := n2_; have BK5 := n3_; have HB := n4_; clear n0_ n1_ n2_ n3_ n4_ hb; obtain ⟨hx0, hx1⟩ := cz2 BK5; obtain ⟨hz0, hz1⟩ := cz2 BK2; obtain ⟨hf0, hf1⟩ := fz2 BK2)); try go_wp2_with (first | ((with_reducible refine gate_dst (N := 2) rfl ?_); refine bE (N := 2) (cs := #[.slice none 0 0, .slice none 0 0]) (t := 25) ?_; intro gb2 hg w3 hbox hb; have n1_ := Aside0.mk (below_step (w := w) bW hb); have BK2 := Aside0.mk hbox; have GE2 := Aside0.mk (gS (w := w) hg); have NB2 := Aside0.mk (show gb2 ≠ w3.heap.size from Nat.ne_of_lt (blk_lt hbox)); clear HB; have HB := n1_; clear n1_ hb hbox hg; obtain ⟨hz0, hz1⟩ := cz2 BK2; obtain ⟨hf0, hf1⟩ := fz2 BK2) | (go_at_call 29; (with_reducible refine (spec_l11Reader_commit.calls k _ a0 0 false q1 q2 q3 q4 false w _ ?ci ?cb A1.out).mono ?_); (case ci => repeat (first | (with_reducible apply IsS60.drewN) | (with_reducible apply IsS60.drew) | (exact IsS60.new w _ a0 0 false (by repeat (first | exact HB.out | apply below_alloc | apply pw_below_drewN | apply below_drew1))))); (case cb => exact (by repeat (first | exact HB.out | apply below_alloc | apply pw_below_drewN | apply below_drew1))); rintro e w5 ⟨v0, v1, rfl, ho0, ho1, hi, hb, hk⟩; have n0_ := Aside0.mk (Kd.R_lower ho0 (below_size (w := w) (by repeat (first | exact HB.out | apply below_alloc | apply pw_below_drewN | apply below_drew1)))); have n1_ := Aside0.mk (Kd.R_lower ho1 (below_size (w := w) (by repeat (first | exact HB.out | apply below_alloc | apply pw_below_drewN | apply below_drew1)))); have n2_ := Aside0.mk (KeepBut.blk hk (g' := gb2) (o := .cells #[.slice none 0 0, .slice none 0 0] 25 (0, 0)) (kB BK2) NB2.out (by simp)); have n3_ := Aside0.mk hb; have n4_ := Aside0.mk hi; clear BK2 HB; have HO0 := n0_; have HO1 := n1_; have BK2 := n2_; have HB := n3_; have HI := n4_; clear n0_ n1_ n2_ n3_ n4_ ho0 ho1 hi hb hk; obtain ⟨Ao0, co0, eo0⟩ := Kd.R_slice HO0.out; subst eo0; obtain ⟨Ao1, co1, eo1⟩ := Kd.R_slice HO1.out; subst eo1) | ((with_reducible refine gate_dst (N := 5) rfl ?_); refine bE (N := 5) (cs := #[.slice none 0 0, .slice none 0 0]) (t := 25) ?_; intro gb5 hg w6 hbox hb; have NB5 := Aside0.mk (show w3.heap.size ≠ gb5 by rw [hg]; exact Nat.ne_of_lt (IsS60.lt HI.out)); have NB25 := Aside0.mk (nL BK2 hg); have GE5 := Aside0.mk (gS (w := w) hg); have n0_ := Aside0.mk (Kd.R_types (Kd.R_below HO0.out hb) hbox (by decide)); have n1_ := Aside0.mk (Kd.R_types (Kd.R_below HO1.out hb) hbox (by decide)); have n2_ := Aside0.mk (kb BK2 hb); have n3_ := Aside0.mk (below_step (w := w) bW hb); have n4_ := Aside0.mk (IsS60.below HI.out hb); have BK5 := Aside0.mk hbox; clear HO0 HO1 BK2 HB HI; have HO0 := n0_; have HO1 := n1_; have BK2 := n2_; have HB := n3_; have HI := n4_; clear n0_ n1_ n2_ n3_ n4_ hb hbox hg; obtain ⟨hy0, hy1⟩ := cz2 BK5; obtain ⟨hg0, hg1⟩ := fz2 BK5; have hr1 := cellS60_1 (IsS60.far (p := ⟨gb5, 1, none⟩) (IsS60.far (p := ⟨gb5, 0, none⟩) HI.out NB5.out (.slice Ao0 q1.length co0)) NB5.out (.slice Ao1 q2.length co1)).1; have hr2 := cellS60_2 (IsS60.far (p := ⟨gb5, 1, none⟩) (IsS60.far (p := ⟨gb5, 0, none⟩) HI.out NB5.out (.slice Ao0 q1.length co0)) NB5.out (.slice Ao1 q2.length co1)).1; have BKP : ((w6.setCell ⟨gb5, 0, none⟩ (.slice Ao0 q1.length co0)).setCell ⟨gb5, 1, none⟩ (.slice Ao1 q2.length co1)).heap[gb5]? = some (.cells #[.slice Ao0 q1.length co0, .slice Ao1 q2.length co1] 25 (0, 0)) := (blk_put (cs := #[.slice Ao0 q1.length co0, .slice none 0 0]) (blk_put (cs := #[.slice none 0 0, .slice none 0 0]) BK5.out 0 _ rfl) 1 _ rfl); obtain ⟨hx0, hx1⟩ := cz2 (Aside0.mk BKP); clear BKP; have BKQ : ((w6.setCell ⟨gb5, 0, none⟩ (.slice Ao0 q1.length co0)).setCell ⟨gb5, 1, none⟩ (.slice Ao1 q2.length co1)).heap[gb2]? = some (.cells #[.slice none 0 0, .slice none 0 0] 25 (0, 0)) := blk_far (p := ⟨gb5, 1, none⟩) (blk_far (p := ⟨gb5, 0, none⟩) BK2.out NB25.out _) NB25.out _; obtain ⟨hz0_, hz1_⟩ := cz2 (Aside0.mk BKQ); obtain ⟨hf0_, hf1_⟩ := fz2 (Aside0.mk BKQ); clear BKQ) | (go_at_call 30; (with_reducible refine (spec_l11Loose.calls k _ _ q1 _ _ q2 false _ ?r0 ?s0 ?r1 ?s1 A3.out).mono ?_); (case r0 => exact (Kd.R_reads' (Kd.R_far (p := ⟨gb5, 1, none⟩) (Kd.R_far (p := ⟨gb5, 0, none⟩) HO0.out (fun _ hk => hk.2) (.slice Ao0 q1.length co0)) (fun _ hk => hk.2) (.slice Ao1 q2.length co1))).2.2); (case s0 => exact (Kd.R_reads' (Kd.R_far (p := ⟨gb5, 1, none⟩) (Kd.R_far (p := ⟨gb5, 0, none⟩) HO0.out (fun _ hk => hk.2) (.slice Ao0 q1.length co0)) (fun _ hk => hk.2) (.slice Ao1 q2.length co1))).2.1); (case r1 => exact (Kd.R_reads' (Kd.R_far (p := ⟨gb5, 1, none⟩) (Kd.R_far (p := ⟨gb5, 0, none⟩) HO1.out (fun _ hk => hk.2) (.slice Ao0 q1.length co0)) (fun _ hk => hk.2) (.slice Ao1 q2.length co1))).2.2); (case s1 => exact (Kd.R_reads' (Kd.R_far (p := ⟨gb5, 1, none⟩) (Kd.R_far (p := ⟨gb5, 0, none⟩) HO1.out (fun _ hk => hk.2) (.slice Ao0 q1.length co0)) (fun _ hk => hk.2) (.slice Ao1 q2.length co1))).2.1); rintro e w8 ⟨rfl, hb⟩; have n0_ := Aside0.mk (Kd.R_below (Kd.R_far (p := ⟨gb5, 1, none⟩) (Kd.R_far (p := ⟨gb5, 0, none⟩) HO0.out (fun _ hk => hk.2) (.slice Ao0 q1.length co0)) (fun _ hk => hk.2) (.slice Ao1 q2.length co1)) hb); have n1_ := Aside0.mk (Kd.R_below (Kd.R_far (p := ⟨gb5, 1, none⟩) (Kd.R_far (p := ⟨gb5, 0, none⟩) HO1.out (fun _ hk => hk.2) (.slice Ao0 q1.length co0)) (fun _ hk => hk.2) (.slice Ao1 q2.length co1)) hb); have n2_ := Aside0.mk (blk_below (blk_far (blk_far BK2.out NB25.out _) NB25.out _) hb); have n3_ := Aside0.mk (blk_below (blk_put (cs := #[.slice Ao0 q1.length co0, .slice none 0 0]) (blk_put (cs := #[.slice none 0 0, .slice none 0 0]) BK5.out 0 _ rfl) 1 _ rfl) hb); have n4_ := Aside0.mk (below_step (w := w) (below_set (below_set HB.out GE5.out) GE5.out) hb); clear HO0 HO1 BK2 BK5 HB; have HO0 := n0_; have HO1 := n1_; have BK2 := n2_; have BK5 := n3_; have HB := n4_; clear n0_ n1_ n2_ n3_ n4_ hb; obtain ⟨hx0, hx1⟩ := cz2 BK5; obtain ⟨hz0, hz1⟩ := cz2 BK2; obtain ⟨hf0, hf1⟩ := fz2 BK2)))
          refine bodyPost_ret (results_ct rfl _ _ gb2 25 #[.slice none 0 0, .slice none 0 0] (0, 0) _ rfl (by (with_reducible repeat (first | refine blk_drewN ?_ _ | refine blk_drew ?_ | refine blk_alloc ?_ _)); refine blk_put (cs := #[.slice none 0 0, .slice none 0 0]) ?_ 1 _ rfl; refine blk_put (cs := #[.slice none 0 0, .slice none 0 0]) ?_ 0 _ rfl; (with_reducible repeat (first | refine blk_drewN ?_ _ | refine blk_drew ?_ | refine blk_alloc ?_ _)); exact BK2.out) Try.underlying25 rfl (by kernel_rfl)) rfl ?_
          exact ⟨_, _, rfl, Kd.R_nil _ _ _ _ _, Kd.R_nil _ _ _ _ _, by repeat (first | exact HB.out | refine below_set ?_ GE2.out | refine below_set ?_ GE5.out | apply below_alloc | apply pw_below_drewN | apply below_drew1)⟩
        | true =>
          simp only [if_true, Option.some.injEq, Prod.mk.injEq] at h
          obtain ⟨rfl, rfl, rfl⟩ := h
          go_enter Try.func6, Try.ntmps6
          go_wp2_with (first | ((with_reducible refine gate_dst (N := 2) rfl ?_); refine bE (N := 2) (cs := #[.slice none 0 0, .slice none 0 0]) (t := 25) ?_; intro gb2 hg w3 hbox hb; have n1_ := Aside0.mk (below_step (w := w) bW hb); have BK2 := Aside0.mk hbox; have GE2 := Aside0.mk (gS (w := w) hg); have NB2 := Aside0.mk (show gb2 ≠ w3.heap.size from Nat.ne_of_lt (blk_lt hbox)); clear HB; have HB := n1_; clear n1_ hb hbox hg; obtain ⟨hz0, hz1⟩ := cz2 BK2; obtain ⟨hf0, hf1⟩ := fz2 BK2) | (go_at_call 29; (with_reducible refine (spec_l11Reader_commit.calls k _ a0 0 false q1 q2 q3 q4 false w _ ?ci ?cb A1.out).mono ?_); (case ci => repeat (first | (with_reducible apply IsS60.drewN) | (with_reducible apply IsS60.drew) | (exact IsS60.new w _ a0 0 false (by repeat (first | exact HB.out | apply below_alloc | apply pw_below_drewN | apply below_drew1))))); (case cb => exact (by repeat (first | exact HB.out | apply below_alloc | apply pw_below_drewN | apply below_drew1))); rintro e w5 ⟨v0, v1, rfl, ho0, ho1, hi, hb, hk⟩; have n0_ := Aside0.mk (Kd.R_lower ho0 (below_size (w := w) (by repeat (first | exact HB.out | apply below_alloc | apply pw_below_drewN | apply below_drew1)))); have n1_ := Aside0.mk (Kd.R_lower ho1 (below_size (w := w) (by repeat (first | exact HB.out | apply below_alloc | apply pw_below_drewN | apply below_drew1)))); have n2_ := Aside0.mk (KeepBut.blk hk (g' := gb2) (o := .cells #[.slice none 0 0, .slice none 0 0] 25 (0, 0)) (kB BK2) NB2.out (by simp)); have n3_ := Aside0.mk hb; have n4_ := Aside0.mk hi; clear BK2 HB; have HO0 := n0_; have HO1 := n1_; have BK2 := n2_; have HB := n3_; have HI := n4_; clear n0_ n1_ n2_ n3_ n4_ ho0 ho1 hi hb hk; obtain ⟨Ao0, co0, eo0⟩ := Kd.R_slice HO0.out; subst eo0; obtain ⟨Ao1, co1, eo1⟩ := Kd.R_slice HO1.out; subst eo1) | ((with_reducible refine gate_dst (N := 5) rfl ?_); refine bE (N := 5) (cs := #[.slice none 0 0, .slice none 0 0]) (t := 25) ?_; intro gb5 hg w6 hbox hb; have NB5 := Aside0.mk (show w3.heap.size ≠ gb5 by rw [hg]; exact Nat.ne_of_lt (IsS60.lt HI.out)); have NB25 := Aside0.mk (nL BK2 hg); have GE5 := Aside0.mk (gS (w := w) hg); have n0_ := Aside0.mk (Kd.R_types (Kd.R_below HO0.out hb) hbox (by decide)); have n1_ := Aside0.mk (Kd.R_types (Kd.R_below HO1.out hb) hbox (by decide)); have n2_ := Aside0.mk (kb BK2 hb); have n3_ := Aside0.mk (below_step (w := w) bW hb); have n4_ := Aside0.mk (IsS60.below HI.out hb); have BK5 := Aside0.mk hbox; clear HO0 HO1 BK2 HB HI; have HO0 := n0_; have HO1 := n1_; have BK2 := n2_; have HB := n3_; have HI := n4_; clear n0_ n1_ n2_ n3_ n4_ hb hbox hg; obtain ⟨hy0, hy1⟩ := cz2 BK5; obtain ⟨hg0, hg1⟩ := fz2 BK5; have hr1 := cellS60_1 (IsS60.far (p := ⟨gb5, 1, none⟩) (IsS60.far (p := ⟨gb5, 0, none⟩) HI.out NB5.out (.slice Ao0 q1.length co0)) NB5.out (.slice Ao1 q2.length co1)).1; have hr2 := cellS60_2 (IsS60.far (p := ⟨gb5, 1, none⟩) (IsS60.far (p := ⟨gb5, 0, none⟩) HI.out NB5.out (.slice Ao0 q1.length co0)) NB5.out (.slice Ao1 q2.length co1)).1; have BKP : ((w6.setCell ⟨gb5, 0, none⟩ (.slice Ao0 q1.length co0)).setCell ⟨gb5, 1, none⟩ (.slice Ao1 q2.length co1)).heap[gb5]? = some (.cells #[.slice Ao0 q1.length co0, .slice Ao1 q2.length co1] 25 (0, 0)) := (blk_put (cs := #[.slice Ao0 q1.length co0, .slice none 0 0]) (blk_put (cs := #[.slice none 0 0, .slice none 0 0]) BK5.out 0 _ rfl) 1 _ rfl); obtain ⟨hx0, hx1⟩ := cz2 (Aside0.mk BKP); clear BKP; have BKQ : ((w6.setCell ⟨gb5, 0, none⟩ (.slice Ao0 q1.length co0)).setCell ⟨gb5, 1, none⟩ (.slice Ao1 q2.length co1)).heap[gb2]? = some (.cells #[.slice none 0 0, .slice none 0 0] 25 (0, 0)) := blk_far (p := ⟨gb5, 1, none⟩) (blk_far (p := ⟨gb5, 0, none⟩) BK2.out NB25.out _) NB25.out _; obtain ⟨hz0_, hz1_⟩ := cz2 (Aside0.mk BKQ); obtain ⟨hf0_, hf1_⟩ := fz2 (Aside0.mk BKQ); clear BKQ) | (go_at_call 30; (with_reducible refine (spec_l11Loose.calls k _ _ q1 _ _ q2 true _ ?r0 ?s0 ?r1 ?s1 A3.out).mono ?_); (case r0 => exact (Kd.R_reads' (Kd.R_far (p := ⟨gb5, 1, none⟩) (Kd.R_far (p := ⟨gb5, 0, none⟩) HO0.out (fun _ hk => hk.2) (.slice Ao0 q1.length co0)) (fun _ hk => hk.2) (.slice Ao1 q2.length co1))).2.2); (case s0 => exact (Kd.R_reads' (Kd.R_far (p := ⟨gb5, 1, none⟩) (Kd.R_far (p := ⟨gb5, 0, none⟩) HO0.out (fun _ hk => hk.2) (.slice Ao0 q1.length co0)) (fun _ hk => hk.2) (.slice Ao1 q2.length co1))).2.1); (case r1 => exact (Kd.R_reads' (Kd.R_far (p := ⟨gb5, 1, none⟩) (Kd.R_far (p := ⟨gb5, 0, none⟩) HO1.out (fun _ hk => hk.2) (.slice Ao0 q1.length co0)) (fun _ hk => hk.2) (.slice Ao1 q2.length co1))).2.2); (case s1 => exact (Kd.R_reads' (Kd.R_far (p := ⟨gb5, 1, none⟩) (Kd.R_far (p := ⟨gb5, 0, none⟩) HO1.out (fun _ hk => hk.2) (.slice Ao0 q1.length co0)) (fun _ hk => hk.2) (.slice Ao1 q2.length co1))).2.1); rintro e w8 ⟨rfl, hb⟩; have n0_ := Aside0.mk (Kd.R_below (Kd.R_far (p := ⟨gb5, 1, none⟩) (Kd.R_far (p := ⟨gb5, 0, none⟩) HO0.out (fun _ hk => hk.2) (.slice Ao0 q1.length co0)) (fun _ hk => hk.2) (.slice Ao1 q2.length co1)) hb); have n1_ := Aside0.mk (Kd.R_below (Kd.R_far (p := ⟨gb5, 1, none⟩) (Kd.R_far (p := ⟨gb5, 0, none⟩) HO1.out (fun _ hk => hk.2) (.slice Ao0 q1.length co0)) (fun _ hk => hk.2) (.slice Ao1 q2.length co1)) hb); have n2_ := Aside0.mk (blk_below (blk_far (blk_far BK2.out NB25.out _) NB25.out _) hb); have n3_ := Aside0.mk (blk_below (blk_put (cs := #[.slice Ao0 q1.length co0, .slice none 0 0]) (blk_put (cs := #[.slice none 0 0, .slice none 0 0]) BK5.out 0 _ rfl) 1 _ rfl) hb); have n4_ := Aside0.mk (below_step (w := w) (below_set (below_set HB.out GE5.out) GE5.out) hb); clear HO0 HO1 BK2 BK5 HB; have HO0 := n0_; have HO1 := n1_; have BK2 := n2_; have BK5 := n3_; have HB := n4_; clear n0_ n1_ n2_ n3_ n4_ hb; obtain ⟨hx0, hx1⟩ := cz2 BK5; obtain ⟨hz0, hz1⟩ := cz2 BK2; obtain ⟨hf0, hf1⟩ := fz2 BK2))
          repeat (go_quiet (first | ((with_reducible refine gate_dst (N := 2) rfl ?_); refine bE (N := 2) (cs := #[.slice none 0 0, .slice none 0 0]) (t := 25) ?_; intro gb2 hg w3 hbox hb; have n1_ := Aside0.mk (below_step (w := w) bW hb); have BK2 := Aside0.mk hbox; have GE2 := Aside0.mk (gS (w := w) hg); have NB2 := Aside0.mk (show gb2 ≠ w3.heap.size from Nat.ne_of_lt (blk_lt hbox)); clear HB; have HB := n1_; clear n1_ hb hbox hg; obtain ⟨hz0, hz1⟩ := cz2 BK2; obtain ⟨hf0, hf1⟩ := fz2 BK2) | (go_at_call 29; (with_reducible refine (spec_l11Reader_commit.calls k _ a0 0 false q1 q2 q3 q4 false w _ ?ci ?cb A1.out).mono ?_); (case ci => repeat (first | (with_reducible apply IsS60.drewN) | (with_reducible apply IsS60.drew) | (exact IsS60.new w _ a0 0 false (by repeat (first | exact HB.out | apply below_alloc | apply pw_below_drewN | apply below_drew1))))); (case cb => exact (by repeat (first | exact HB.out | apply below_alloc | apply pw_below_drewN | apply below_drew1))); rintro e w5 ⟨v0, v1, rfl, ho0, ho1, hi, hb, hk⟩; have n0_ := Aside0.mk (Kd.R_lower ho0 (below_size (w := w) (by repeat (first | exact HB.out | apply below_alloc | apply pw_below_drewN | apply below_drew1)))); have n1_ := Aside0.mk (Kd.R_lower ho1 (below_size (w := w) (by repeat (first | exact HB.out | apply below_alloc | apply pw_below_drewN | apply below_drew1)))); have n2_ := Aside0.mk (KeepBut.blk hk (g' := gb2) (o := .cells #[.slice none 0 0, .slice none 0 0] 25 (0, 0)) (kB BK2) NB2.out (by simp)); have n3_ := Aside0.mk hb; have n4_ := Aside0.mk hi; clear BK2 HB; have HO0 := n0_; have HO1 := n1_; have BK2 := n2_; have HB := n3_; have HI := n4_; clear n0_ n1_ n2_ n3_ n4_ ho0 ho1 hi hb hk; obtain ⟨Ao0, co0, eo0⟩ := Kd.R_slice HO0.out; subst eo0; obtain ⟨Ao1, co1, eo1⟩ := Kd.R_slice HO1.out; subst eo1) | ((with_reducible refine gate_dst (N := 5) rfl ?_); refine bE (N := 5) (cs := #[.slice none 0 0, .slice none 0 0]) (t := 25) ?_; intro gb5 hg w6 hbox hb; have NB5 := Aside0.mk (show w3.heap.size ≠ gb5 by rw [hg]; exact Nat.ne_of_lt (IsS60.lt HI.out)); have NB25 := Aside0.mk (nL BK2 hg); have GE5 := Aside0.mk (gS (w := w) hg); have n0_ := Aside0.mk (Kd.R_types (Kd.R_below HO0.out hb) hbox (by decide)); have n1_ := Aside0.mk (Kd.R_types (Kd.R_below HO1.out hb) hbox (by decide)); have n2_ := Aside0.mk (kb BK2 hb); have n3_ := Aside0.mk (below_step (w := w) bW hb); have n4_ := Aside0.mk (IsS60.below HI.out hb); have BK5 := Aside0.mk hbox; clear HO0 HO1 BK2 HB HI; have HO0 := n0_; have HO1 := n1_; have BK2 := n2_; have HB := n3_; have HI := n4_; clear n0_ n1_ n2_ n3_ n4_ hb hbox hg; obtain ⟨hy0, hy1⟩ := cz2 BK5; obtain ⟨hg0, hg1⟩ := fz2 BK5; have hr1 := cellS60_1 (IsS60.far (p := ⟨gb5, 1, none⟩) (IsS60.far (p := ⟨gb5, 0, none⟩) HI.out NB5.out (.slice Ao0 q1.length co0)) NB5.out (.slice Ao1 q2.length co1)).1; have hr2 := cellS60_2 (IsS60.far (p := ⟨gb5, 1, none⟩) (IsS60.far (p := ⟨gb5, 0, none⟩) HI.out NB5.out (.slice Ao0 q1.length co0)) NB5.out (.slice Ao1 q2.length co1)).1; have BKP : ((w6.setCell ⟨gb5, 0, none⟩ (.slice Ao0 q1.length co0)).setCell ⟨gb5, 1, none⟩ (.slice Ao1 q2.length co1)).heap[gb5]? = some (.cells #[.slice Ao0 q1.length co0, .slice Ao1 q2.length co1] 25 (0, 0)) := (blk_put (cs := #[.slice Ao0 q1.length co0, .slice none 0 0]) (blk_put (cs := #[.slice none 0 0, .slice none 0 0]) BK5.out 0 _ rfl) 1 _ rfl); obtain ⟨hx0, hx1⟩ := cz2 (Aside0.mk BKP); clear BKP; have BKQ : ((w6.setCell ⟨gb5, 0, none⟩ (.slice Ao0 q1.length co0)).setCell ⟨gb5, 1, none⟩ (.slice Ao1 q2.length co1)).heap[gb2]? = some (.cells #[.slice none 0 0, .slice none 0 0] 25 (0, 0)) := blk_far (p := ⟨gb5, 1, none⟩) (blk_far (p := ⟨gb5, 0, none⟩) BK2.out NB25.out _) NB25.out _; obtain ⟨hz0_, hz1_⟩ := cz2 (Aside0.mk BKQ); obtain ⟨hf0_, hf1_⟩ := fz2 (Aside0.mk BKQ); clear BKQ) | (go_at_call 30; (with_reducible refine (spec_l11Loose.calls k _ _ q1 _ _ q2 true _ ?r0 ?s0 ?r1 ?s1 A3.out).mono ?_); (case r0 => exact (Kd.R_reads' (Kd.R_far (p := ⟨gb5, 1, none⟩) (Kd.R_far (p := ⟨gb5, 0, none⟩) HO0.out (fun _ hk => hk.2) (.slice Ao0 q1.length co0)) (fun _ hk => hk.2) (.slice Ao1 q2.length co1))).2.2); (case s0 => exact (Kd.R_reads' (Kd.R_far (p := ⟨gb5, 1, none⟩) (Kd.R_far (p := ⟨gb5, 0, none⟩) HO0.out (fun _ hk => hk.2) (.slice Ao0 q1.length co0)) (fun _ hk => hk.2) (.slice Ao1 q2.length co1))).2.1); (case r1 => exact (Kd.R_reads' (Kd.R_far (p := ⟨gb5, 1, none⟩) (Kd.R_far (p := ⟨gb5, 0, none⟩) HO1.out (fun _ hk => hk.2) (.slice Ao0 q1.length co0)) (fun _ hk => hk.2) (.slice Ao1 q2.length co1))).2.2); (case s1 => exact (Kd.R_reads' (Kd.R_far (p := ⟨gb5, 1, none⟩) (Kd.R_far (p := ⟨gb5, 0, none⟩) HO1.out (fun _ hk => hk.2) (.slice Ao0 q1.length co0)) (fun _ hk => hk.2) (.slice Ao1 q2.length co1))).2.1); rintro e w8 ⟨rfl, hb⟩; have n0_ := Aside0.mk (Kd.R_below (Kd.R_far (p := ⟨gb5, 1, none⟩) (Kd.R_far (p := ⟨gb5, 0, none⟩) HO0.out (fun _ hk => hk.2) (.slice Ao0 q1.length co0)) (fun _ hk => hk.2) (.slice Ao1 q2.length co1)) hb); have n1_ := Aside0.mk (Kd.R_below (Kd.R_far (p := ⟨gb5, 1, none⟩) (Kd.R_far (p := ⟨gb5, 0, none⟩) HO1.out (fun _ hk => hk.2) (.slice Ao0 q1.length co0)) (fun _ hk => hk.2) (.slice Ao1 q2.length co1)) hb); have n2_ := Aside0.mk (blk_below (blk_far (blk_far BK2.out NB25.out _) NB25.out _) hb); have n3_ := Aside0.mk (blk_below (blk_put (cs := #[.slice Ao0 q1.length co0, .slice none 0 0]) (blk_put (cs := #[.slice none 0 0, .slice none 0 0]) BK5.out 0 _ rfl) 1 _ rfl) hb); have n4_ := Aside0.mk (below_step (w := w) (below_set (below_set HB.out GE5.out) GE5.out) hb); clear HO0 HO1 BK2 BK5 HB; have HO0 := n0_; have HO1 := n1_; have BK2 := n2_; have BK5 := n3_; have HB := n4_; clear n0_ n1_ n2_ n3_ n4_ hb; obtain ⟨hx0, hx1⟩ := cz2 BK5; obtain ⟨hz0, hz1⟩ := cz2 BK2; obtain ⟨hf0, hf1⟩ := fz2 BK2)); try go_wp2_with (first | ((with_reducible refine gate_dst (N := 2) rfl ?_); refine bE (N := 2) (cs := #[.slice none 0 0, .slice none 0 0]) (t := 25) ?_; intro gb2 hg w3 hbox hb; have n1_ := Aside0.mk (below_step (w := w) bW hb); have BK2 := Aside0.mk hbox; have GE2 := Aside0.mk (gS (w := w) hg); have NB2 := Aside0.mk (show gb2 ≠ w3.heap.size from Nat.ne_of_lt (blk_lt hbox)); clear HB; have HB := n1_; clear n1_ hb hbox hg; obtain ⟨hz0, hz1⟩ := cz2 BK2; obtain ⟨hf0, hf1⟩ := fz2 BK2) | (go_at_call 29; (with_reducible refine (spec_l11Reader_commit.calls k _ a0 0 false q1 q2 q3 q4 false w _ ?ci ?cb A1.out).mono ?_); (case ci => repeat (first | (with_reducible apply IsS60.drewN) | (with_reducible apply IsS60.drew) | (exact IsS60.new w _ a0 0 false (by repeat (first | exact HB.out | apply below_alloc | apply pw_below_drewN | apply below_drew1))))); (case cb => exact (by repeat (first | exact HB.out | apply below_alloc | apply pw_below_drewN | apply below_drew1))); rintro e w5 ⟨v0, v1, rfl, ho0, ho1, hi, hb, hk⟩; have n0_ := Aside0.mk (Kd.R_lower ho0 (below_size (w := w) (by repeat (first | exact HB.out | apply below_alloc | apply pw_below_drewN | apply below_drew1)))); have n1_ := Aside0.mk (Kd.R_lower ho1 (below_size (w := w) (by repeat (first | exact HB.out | apply below_alloc | apply pw_below_drewN | apply below_drew1)))); have n2_ := Aside0.mk (KeepBut.blk hk (g' := gb2) (o := .cells #[.slice none 0 0, .slice none 0 0] 25 (0, 0)) (kB BK2) NB2.out (by simp)); have n3_ := Aside0.mk hb; have n4_ := Aside0.mk hi; clear BK2 HB; have HO0 := n0_; have HO1 := n1_; have BK2 := n2_; have HB := n3_; have HI := n4_; clear n0_ n1_ n2_ n3_ n4_ ho0 ho1 hi hb hk; obtain ⟨Ao0, co0, eo0⟩ := Kd.R_slice HO0.out; subst eo0; obtain ⟨Ao1, co1, eo1⟩ := Kd.R_slice HO1.out; subst eo1) | ((with_reducible refine gate_dst (N := 5) rfl ?_); refine bE (N := 5) (cs := #[.slice none 0 0, .slice none 0 0]) (t := 25) ?_; intro gb5 hg w6 hbox hb; have NB5 := Aside0.mk (show w3.heap.size ≠ gb5 by rw [hg]; exact Nat.ne_of_lt (IsS60.lt HI.out)); have NB25 := Aside0.mk (nL BK2 hg); have GE5 := Aside0.mk (gS (w := w) hg); have n0_ := Aside0.mk (Kd.R_types (Kd.R_below HO0.out hb) hbox (by decide)); have n1_ := Aside0.mk (Kd.R_types (Kd.R_below HO1.out hb) hbox (by decide)); have n2_ := Aside0.mk (kb BK2 hb); have n3_ := Aside0.mk (below_step (w := w) bW hb); have n4_ := Aside0.mk (IsS60.below HI.out hb); have BK5 := Aside0.mk hbox; clear HO0 HO1 BK2 HB HI; have HO0 := n0_; have HO1 := n1_; have BK2 := n2_; have HB := n3_; have HI := n4_; clear n0_ n1_ n2_ n3_ n4_ hb hbox hg; obtain ⟨hy0, hy1⟩ := cz2 BK5; obtain ⟨hg0, hg1⟩ := fz2 BK5; have hr1 := cellS60_1 (IsS60.far (p := ⟨gb5, 1, none⟩) (IsS60.far (p := ⟨gb5, 0, none⟩) HI.out NB5.out (.slice Ao0 q1.length co0)) NB5.out (.slice Ao1 q2.length co1)).1; have hr2 := cellS60_2 (IsS60.far (p := ⟨gb5, 1, none⟩) (IsS60.far (p := ⟨gb5, 0, none⟩) HI.out NB5.out (.slice Ao0 q1.length co0)) NB5.out (.slice Ao1 q2.length co1)).1; have BKP : ((w6.setCell ⟨gb5, 0, none⟩ (.slice Ao0 q1.length co0)).setCell ⟨gb5, 1, none⟩ (.slice Ao1 q2.length co1)).heap[gb5]? = some (.cells #[.slice Ao0 q1.length co0, .slice Ao1 q2.length co1] 25 (0, 0)) := (blk_put (cs := #[.slice Ao0 q1.length co0, .slice none 0 0]) (blk_put (cs := #[.slice none 0 0, .slice none 0 0]) BK5.out 0 _ rfl) 1 _ rfl); obtain ⟨hx0, hx1⟩ := cz2 (Aside0.mk BKP); clear BKP; have BKQ : ((w6.setCell ⟨gb5, 0, none⟩ (.slice Ao0 q1.length co0)).setCell ⟨gb5, 1, none⟩ (.slice Ao1 q2.length co1)).heap[gb2]? = some (.cells #[.slice none 0 0, .slice none 0 0] 25 (0, 0)) := blk_far (p := ⟨gb5, 1, none⟩) (blk_far (p := ⟨gb5, 0, none⟩) BK2.out NB25.out _) NB25.out _; obtain ⟨hz0_, hz1_⟩ := cz2 (Aside0.mk BKQ); obtain ⟨hf0_, hf1_⟩ := fz2 (Aside0.mk BKQ); clear BKQ) | (go_at_call 30; (with_reducible refine (spec_l11Loose.calls k _ _ q1 _ _ q2 true _ ?r0 ?s0 ?r1 ?s1 A3.out).mono ?_); (case r0 => exact (Kd.R_reads' (Kd.R_far (p := ⟨gb5, 1, none⟩) (Kd.R_far (p := ⟨gb5, 0, none⟩) HO0.out (fun _ hk => hk.2) (.slice Ao0 q1.length co0)) (fun _ hk => hk.2) (.slice Ao1 q2.length co1))).2.2); (case s0 => exact (Kd.R_reads' (Kd.R_far (p := ⟨gb5, 1, none⟩) (Kd.R_far (p := ⟨gb5, 0, none⟩) HO0.out (fun _ hk => hk.2) (.slice Ao0 q1.length co0)) (fun _ hk => hk.2) (.slice Ao1 q2.length co1))).2.1); (case r1 => exact (Kd.R_reads' (Kd.R_far (p := ⟨gb5, 1, none⟩) (Kd.R_far (p := ⟨gb5, 0, none⟩) HO1.out (fun _ hk => hk.2) (.slice Ao0 q1.length co0)) (fun _ hk => hk.2) (.slice Ao1 q2.length co1))).2.2); (case s1 => exact (Kd.R_reads' (Kd.R_far (p := ⟨gb5, 1, none⟩) (Kd.R_far (p := ⟨gb5, 0, none⟩) HO1.out (fun _ hk => hk.2) (.slice Ao0 q1.length co0)) (fun _ hk => hk.2) (.slice Ao1 q2.length co1))).2.1); rintro e w8 ⟨rfl, hb⟩; have n0_ := Aside0.mk (Kd.R_below (Kd.R_far (p := ⟨gb5, 1, none⟩) (Kd.R_far (p := ⟨gb5, 0, none⟩) HO0.out (fun _ hk => hk.2) (.slice Ao0 q1.length co0)) (fun _ hk => hk.2) (.slice Ao1 q2.length co1)) hb); have n1_ := Aside0.mk (Kd.R_below (Kd.R_far (p := ⟨gb5, 1, none⟩) (Kd.R_far (p := ⟨gb5, 0, none⟩) HO1.out (fun _ hk => hk.2) (.slice Ao0 q1.length co0)) (fun _ hk => hk.2) (.slice Ao1 q2.length co1)) hb); have n2_ := Aside0.mk (blk_below (blk_far (blk_far BK2.out NB25.out _) NB25.out _) hb); have n3_ := Aside0.mk (blk_below (blk_put (cs := #[.slice Ao0 q1.length co0, .slice none 0 0]) (blk_put (cs := #[.slice none 0 0, .slice none 0 0]) BK5.out 0 _ rfl) 1 _ rfl) hb); have n4_ := Aside0.mk (below_step (w := w) (below_set (below_set HB.out GE5.out) GE5.out) hb); clear HO0 HO1 BK2 BK5 HB; have HO0 := n0_; have HO1 := n1_; have BK2 := n2_; have BK5 := n3_; have HB := n4_; clear n0_ n1_ n2_ n3_ n4_ hb; obtain ⟨hx0, hx1⟩ := cz2 BK5; obtain ⟨hz0, hz1⟩ := cz2 BK2; obtain ⟨hf0, hf1⟩ := fz2 BK2)))
          refine bodyPost_ret (results_ct rfl _ _ gb2 25 #[.slice Ao0 q1.length co0, .slice Ao1 q2.length co1] (0, 0) _ rfl (by (with_reducible repeat (first | refine blk_drewN ?_ _ | refine blk_drew ?_ | refine blk_alloc ?_ _)); refine blk_put (cs := #[.slice Ao0 q1.length co0, .slice none 0 0]) ?_ 1 _ rfl; refine blk_put (cs := #[.slice none 0 0, .slice none 0 0]) ?_ 0 _ rfl; (with_reducible repeat (first | refine blk_drewN ?_ _ | refine blk_drew ?_ | refine blk_alloc ?_ _)); exact BK2.out) Try.underlying25 rfl (by kernel_rfl)) rfl ?_
          exact ⟨_, _, rfl, Kd.R_mono (Kd.R_far (p := ⟨gb2, 1, none⟩) (Kd.R_far (p := ⟨gb2, 0, none⟩) (Kd.R_types HO0.out BK2.out (by decide)) (fun _ hk => hk.2) (.slice Ao0 q1.length co0)) (fun _ hk => hk.2) (.slice Ao1 q2.length co1)) (fun _ hk => trivial), Kd.R_mono (Kd.R_far (p := ⟨gb2, 1, none⟩) (Kd.R_far (p := ⟨gb2, 0, none⟩) (Kd.R_types HO1.out BK2.out (by decide)) (fun _ hk => hk.2) (.slice Ao0 q1.length co0)) (fun _ hk => hk.2) (.slice Ao1 q2.length co1)) (fun _ hk => trivial), by repeat (first | exact HB.out | refine below_set ?_ GE2.out | refine below_set ?_ GE5.out | apply below_alloc | apply pw_below_drewN | apply below_drew1)⟩
end Go.Proofs.Ytjkjnfooaglnkaa.Q
end

section
namespace Go.Proofs.Ytjkjnfooaglnkaa.Q
open Go.RowKit Go.Proofs.YtjkjnfooaglnkaaW.PrintWords Go.Proofs.YtjkjnfooaglnkaaW.PrintLast Go.Proofs.YtjkjnfooaglnkaaW.PrintMore
attribute [local go_sem] max2_int min2_int max_two min_two max_three min_three max_four min_four   -- for this text's walks alone
set_option linter.unusedVariables false
set_option linter.unusedSimpArgs false
attribute [local go_sem] bin_leq bin_gtr bin_geq
def impl_isText.f (a0 : ByteArray) : Option (Bool) := some (decide ((a0.size : Int) ≤ 65536))
set_option maxHeartbeats 8000000 in
set_option maxRecDepth 100000 in
theorem impl_isText.calls (a0 : ByteArray) (r : Bool) (w : World) (h : impl_isText.f a0 = some r) :
    Calls Try.prog 31 #[.string a0] w fun e w' => e = .returned (.bool r) ∧ Drawn0 w w' := by
  have H : (some (decide ((a0.size : Int) ≤ 65536))) = some r := h
  clear h
  obtain rfl := Option.some.inj H
  go_enter Try.func31, Try.ntmps31
  go_wp2
  go_ret
  exact ⟨by first | rfl | (simp; done) | (simp [*]; done), by repeat (first | exact Drawn0.refl _ | apply Drawn0.step)⟩
end Go.Proofs.Ytjkjnfooaglnkaa.Q
end
