/- Parts of the proof of the law FnExactWishOK, joined into one text. -/
import Derived.Test.YtmkgkinhbahlmaaMFnExactWishOK3
section
namespace Go.Proofs.Ytmkgkinhbahlmaa.Q
open Go.RowKit Go.Proofs.YtmkgkinhbahlmaaW.PrintWords Go.Proofs.YtmkgkinhbahlmaaW.PrintLast
set_option linter.unusedVariables false
set_option linter.unusedSimpArgs false
def wishB (kind : Int) (name source key : ByteArray) (l : List S147) : Bool :=
  nameB name && (inB kind 1 6 && (editsB l && ((kind == 3 || l.isEmpty) && ((if kind = 1 then nameB source else if kind = 4 then nameB source else source.toList.isEmpty) && (if kind = 5 then nameB key else key.toList.isEmpty)))))
theorem l07Wish_ev (kind : Int) (name source key : ByteArray) (l : List S147) : Ev (fun k => spec_l07Wish.f k kind name source key l) (wishB kind name source key l) := by
  obtain ⟨K1, W1⟩ := Ev.many (l00Word_ev name)
  obtain ⟨K2, W2⟩ := Ev.many (l00Word_ev key)
  obtain ⟨K3, W3⟩ := Ev.many (l00Word_ev source)
  refine Ev.from_ (K1 + K2 + K3) 4 (fun m hm => ?_)
  obtain ⟨a0, a1, a2, a3, a4⟩ := W1 m (by omega)
  obtain ⟨b0, b1, b2, b3, b4⟩ := W2 m (by omega)
  obtain ⟨c0, c1, c2, c3, c4⟩ := W3 m (by omega)
  simp only [spec_l07Wish.f, spec_l07Wish.j0, a0, a1, a2, a3, a4, b0, b1, b2, b3, b4, c0, c1, c2, c3, c4, l01In_is, spec_l01Edits.f, Option.bind_some, len_pos_isEmpty, eq_nil_isEmpty, beq_nil_isEmpty]
  unfold wishB
  cases nameB name
  · simp
  cases inB kind 1 6
  · simp
  cases editsB l
  · simp
  by_cases k1 : kind = 1
  · subst k1
    cases l.isEmpty <;> cases nameB source <;> simp
  by_cases k4 : kind = 4
  · subst k4
    cases l.isEmpty <;> cases nameB source <;> simp
  by_cases k3 : kind = 3
  · subst k3
    cases l.isEmpty <;> cases source.toList.isEmpty <;> simp
  by_cases k5 : kind = 5
  · subst k5
    cases l.isEmpty <;> cases source.toList.isEmpty <;> cases nameB key <;> simp
  cases l.isEmpty <;> cases source.toList.isEmpty <;> simp [k1, k3, k4, k5]
theorem wishOK_ev (kind : Int) (name source key : ByteArray) (l : List S147) (hl : l.length ≤ 1048576) : Ev (fun k => impl_WishOK.f k kind name source key l) (wishB kind name source key l) := by
  have hc : ∀ frm, impl_Wish_op.f kind name source key l frm = some (kind, frm, name, key, l) := fun frm => by
    unfold impl_Wish_op.f impl_Edit.f
    rw [if_pos (by omega)]
    rfl
  obtain ⟨K0, W0⟩ := Ev.many (opOK_ev kind 0 name key l hl)
  obtain ⟨K1, W1⟩ := Ev.many (opOK_ev kind 1 name key l hl)
  refine Ev.from_ (K0 + K1) 0 (fun m hm => ?_)
  obtain ⟨a0, _⟩ := W0 m (by omega)
  obtain ⟨b0, _⟩ := W1 m (by omega)
  simp only [Nat.add_zero]
  unfold impl_WishOK.f impl_hasSource.f impl_NameOK.f
  simp only [hc, Option.bind_some, a0, b0, eq_nil_isEmpty]
  unfold wishB opB fromB
  have h11 : inB 1 1 60 = true := rfl
  have h00 : inB 0 0 60 = true := rfl
  by_cases k1 : kind = 1
  · subst k1
    simp only [if_true, Option.bind_some]
    cases nameB source
    · simp
    · simp [h11]
  by_cases k4 : kind = 4
  · subst k4
    simp only [k1, if_false, beq_self_eq_true, if_true, Option.bind_some]
    cases nameB source
    · simp
    · simp [h11]
  have z4 : (kind == 4) = false := by rw [beq_eq_false_iff_ne]; exact k4
  simp only [k1, k4, z4, if_false, Option.bind_some, Bool.false_eq_true]
  cases source.toList.isEmpty
  · simp
  · by_cases k3 : kind = 3
    · subst k3
      simp [h00]
    · simp [k3]
end Go.Proofs.Ytmkgkinhbahlmaa.Q
end

section
namespace Go.Proofs.Ytmkgkinhbahlmaa.Q
open Go.RowKit Go.Proofs.YtmkgkinhbahlmaaW.PrintWords Go.Proofs.YtmkgkinhbahlmaaW.PrintLast
set_option linter.unusedVariables false
def cvEdit (x : S146) : S147 := ⟨x.f0, x.f1, x.f2⟩
theorem toEditS_ev (l : List S146) (h : l.length ≤ 1048576) : Ev (fun k => laws_toEditS.f k l) (l.map cvEdit) := by
  refine Ev.congr (f := fun k => laws_toEditS.l0 k l (List.replicate l.length z147) 0) (fun k => ?_) ?_
  · unfold laws_toEditS.f
    rw [if_pos (by omega), if_pos (by omega)]
    rfl
  · exact ev_map_loop (L := laws_toEditS.l0) (g := fun _ x => some (cvEdit x)) (z := z146) (fun _ _ _ _ => rfl) l (by omega) (fun x _ => Ev.now _) _ (by simp)
theorem eqEdit_refl (x : S147) : laws_eqEdit.f x.f0 x.f1 x.f2 x.f0 x.f1 x.f2 = some true := by
  unfold laws_eqEdit.f
  simp
theorem eqEditS_ev (l : List S147) (h : l.length ≤ 1048576) : Ev (fun k => laws_eqEditS.f k l l) true := by
  refine Ev.congr (f := fun k => laws_eqEditS.l0 k l l 0) (fun k => ?_) ?_
  · unfold laws_eqEditS.f
    rw [if_pos rfl]
  · exact ev_refl_loop (L := laws_eqEditS.l0) (g := fun _ x y => laws_eqEdit.f x.f0 x.f1 x.f2 y.f0 y.f1 y.f2) (z := z147) (fun _ _ _ _ => rfl) l (by omega) (fun x _ => Ev.congr (fun _ => eqEdit_refl x) (Ev.now _))
theorem szEditS_ev (l : List S146) (hl : l.length ≤ 9223372036854775807) (hg : ∀ x, x ∈ l → good146 x) (left : Int) (h0 : 0 ≤ left) (h1 : left ≤ 1048576) :
    ∃ r, Ev (fun k => laws_szEditS.f k l left) r ∧ r ≤ left ∧ (0 ≤ r → l.length ≤ 1048576) := by
  have hw : wrap64 (left - (l.length : Int)) = left - (l.length : Int) := by unfold wrap64; omega
  by_cases hn : left - (l.length : Int) < 0
  · refine ⟨-1, Ev.congr (f := fun _ => some (-1)) (fun k => ?_) (Ev.now _), by omega, by omega⟩
    unfold laws_szEditS.f
    rw [hw, if_pos hn]
  · obtain ⟨r, hr, hrl⟩ := ev_sz_loop (L := laws_szEditS.l0) (g := fun _ x left => laws_szEdit.f x.f0 x.f1 x.f2 left) (z := z146) (fun _ _ _ _ => rfl) l (by omega) (fun x hx left h0 h1 => by
      have hsz : x.f0.size ≤ 9223372036854775807 := (hg x hx).1
      have hw2 : wrap64 (left - (x.f0.size : Int)) = left - (x.f0.size : Int) := by unfold wrap64; omega
      by_cases h2 : left - (x.f0.size : Int) < 0
      · refine ⟨-1, Ev.congr (f := fun _ => some (-1)) (fun k => ?_) (Ev.now _), by omega⟩
        unfold laws_szEdit.f
        rw [hw2, if_pos h2]
      · refine ⟨left - (x.f0.size : Int), Ev.congr (f := fun _ => some (left - (x.f0.size : Int))) (fun k => ?_) (Ev.now _), by omega⟩
        unfold laws_szEdit.f
        rw [hw2, if_neg h2]) (left - (l.length : Int)) (by omega) (by omega)
    refine ⟨r, Ev.congr (f := fun k => laws_szEditS.l0 k l (left - (l.length : Int)) 0) (fun k => ?_) hr, by omega, by omega⟩
    unfold laws_szEditS.f
    rw [hw, if_neg hn]
end Go.Proofs.Ytmkgkinhbahlmaa.Q
end

section
namespace Go.Proofs.Ytmkgkinhbahlmaa.Pure
open Go.RowKit Go.Proofs.Ytmkgkinhbahlmaa.Q Go.Proofs.YtmkgkinhbahlmaaW.PrintWords Go.Proofs.YtmkgkinhbahlmaaW.PrintLast
set_option linter.unusedVariables false
set_option linter.unusedSimpArgs false
theorem szWish_ev (kind : Int) (name source key : ByteArray) (l : List S146) (g : good81 ⟨kind, name, source, key, l⟩) :
    ∃ r, Ev (fun k => laws_szWish.f k kind name source key l 1048576) r ∧ (0 ≤ r → l.length ≤ 1048576) := by
  unfold laws_szWish.f
  have g0 : name.size ≤ 9223372036854775807 := g.2.1
  have w0 : wrap64 (1048576 - (name.size : Int)) = 1048576 - (name.size : Int) := by unfold wrap64; omega
  by_cases n0 : 1048576 - (name.size : Int) < 0
  · exact ⟨-1, by simp only [w0, n0, if_false, if_true]; exact Ev.now _, by omega⟩
  have g1 : source.size ≤ 9223372036854775807 := g.2.2.1
  have w1 : wrap64 (1048576 - (name.size : Int) - (source.size : Int)) = 1048576 - (name.size : Int) - (source.size : Int) := by unfold wrap64; omega
  by_cases n1 : 1048576 - (name.size : Int) - (source.size : Int) < 0
  · exact ⟨-1, by simp only [w0, w1, n0, n1, if_false, if_true]; exact Ev.now _, by omega⟩
  have g2 : key.size ≤ 9223372036854775807 := g.2.2.2.1
  have w2 : wrap64 (1048576 - (name.size : Int) - (source.size : Int) - (key.size : Int)) = 1048576 - (name.size : Int) - (source.size : Int) - (key.size : Int) := by unfold wrap64; omega
  by_cases n2 : 1048576 - (name.size : Int) - (source.size : Int) - (key.size : Int) < 0
  · exact ⟨-1, by simp only [w0, w1, w2, n0, n1, n2, if_false, if_true]; exact Ev.now _, by omega⟩
  obtain ⟨r, hr, hrl, hrs⟩ := szEditS_ev l g.2.2.2.2.1 g.2.2.2.2.2 (1048576 - (name.size : Int) - (source.size : Int) - (key.size : Int)) (by omega) (by omega)
  by_cases n9 : r < 0
  · exact ⟨-1, by simp only [w0, w1, w2, n0, n1, n2, if_false]; refine Ev.bind hr ?_; simp only [n9, if_true]; exact Ev.now _, by omega⟩
  · exact ⟨r, by simp only [w0, w1, w2, n0, n1, n2, if_false]; refine Ev.bind hr ?_; simp only [n9, if_false]; exact Ev.now _, hrs⟩
theorem toWish_ev (kind : Int) (name source key : ByteArray) (l : List S146) (h : l.length ≤ 1048576) : Ev (fun k => laws_toWish.f k kind name source key l) (kind, name, source, key, l.map cvEdit) := by
  unfold laws_toWish.f
  exact Ev.bind (toEditS_ev l h) (Ev.now _)
theorem eqWish_ev (kind : Int) (name source key : ByteArray) (l : List S147) (h : l.length ≤ 1048576) : Ev (fun k => laws_eqWish.f k kind name source key l kind name source key l) true := by
  unfold laws_eqWish.f
  simp only [if_true]
  refine Ev.bind (eqEditS_ev l h) ?_
  simp only [if_true]
  exact Ev.now _
theorem FnExactWishOK : laws_FnExactWishOK.Pure := by
  intro kind name source key l g
  refine Ev.rounds ?_
  unfold laws_FnExactWishOK.f
  obtain ⟨r, hr, hrs⟩ := szWish_ev kind name source key l g
  refine Ev.bind hr ?_
  by_cases hn : r < 0
  · simp only [hn, if_true]
    exact Ev.now _
  simp only [hn, if_false]
  have hl := hrs (by omega)
  have ht := toWish_ev kind name source key l hl
  have hl2 : (l.map cvEdit).length ≤ 1048576 := by simpa using hl
  refine Ev.bind ht (Ev.bind (a := wishB kind name source key (l.map cvEdit)) ?_ (Ev.bind ht (Ev.bind (wishOK_ev kind name source key _ hl2) ?_)))
  · exact Ev.bind (l07Wish_ev kind name source key _) (Ev.now _)
  · simp only [bne_self_eq_false, Bool.false_eq_true, if_false]
    refine Ev.bind ht (Ev.bind (eqWish_ev kind name source key _ hl2) ?_)
    simp only [if_true]
    exact Ev.now _
end Go.Proofs.Ytmkgkinhbahlmaa.Pure
end
