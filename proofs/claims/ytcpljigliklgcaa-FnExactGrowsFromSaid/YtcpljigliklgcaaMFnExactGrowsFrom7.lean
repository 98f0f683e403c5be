/- Parts of the proof of the law FnExactGrowsFrom, joined into one text. -/
import Derived.Test.YtcpljigliklgcaaMFnExactGrowsFrom6
section
namespace Go.Proofs.Ytcpljigliklgcaa.Q
open Go.RowKit Go.Proofs.YtcpljigliklgcaaW.PrintWords Go.Proofs.YtcpljigliklgcaaW.PrintLast
set_option linter.unusedVariables false
set_option linter.unusedSimpArgs false
theorem toIntS_ev (l : List Int) (h : l.length ≤ 1048576) : Ev (fun k => laws_toIntS.f k l) l := by
  refine Ev.congr (f := fun k => laws_toIntS.l0 k l (List.replicate l.length 0) 0) (fun k => ?_) ?_
  · unfold laws_toIntS.f
    rw [if_pos (by omega), if_pos (by omega)]
    rfl
  · have h2 := ev_map_loop (L := laws_toIntS.l0) (g := fun _ x => some x) (cv := fun x => x) (z := (0 : Int)) (fun _ _ _ _ => rfl) l (by omega) (fun x _ => Ev.now _) (List.replicate l.length 0) (by simp)
    simpa using h2
theorem eqIntS_ev (l : List Int) (hl : l.length ≤ 1048576) : Ev (fun k => laws_eqIntS.f k l l) true := by
  obtain ⟨b, hb, h⟩ := ev_same_loop (L := fun k i => laws_eqIntS.l0 k l l i) (xs := l) (ys := l) rfl (fun i h1 h2 e k => by
    have c1 : (i : Int) < (l.length : Int) := by omega
    simp only [laws_eqIntS.l0, c1, Int.natCast_nonneg, if_true, wrap_i (show i < 4611686018427387904 by omega)]) (fun i h1 h2 e k => absurd rfl e) (fun k => by
    simp only [laws_eqIntS.l0]
    rw [if_neg (by omega)])
  obtain rfl : b = true := h.mpr rfl
  exact Ev.congr (f := fun k => laws_eqIntS.l0 k l l 0) (fun k => by unfold laws_eqIntS.f; rw [if_pos rfl]) hb
theorem szIntS_ev (l : List Int) (hl : l.length ≤ 9223372036854775807) (left : Int) (h0 : 0 ≤ left) (h1 : left ≤ 1048576) :
    ∃ r, laws_szIntS.f l left = some r ∧ r ≤ left ∧ (0 ≤ r → l.length ≤ 1048576) := by
  have hw : wrap64 (left - (l.length : Int)) = left - (l.length : Int) := by unfold wrap64; omega
  unfold laws_szIntS.f
  rw [hw]
  by_cases hn : left - (l.length : Int) < 0
  · exact ⟨-1, by rw [if_pos hn], by omega, by omega⟩
  · exact ⟨left - (l.length : Int), by rw [if_neg hn], by omega, by omega⟩
def cvCommit (x : S209) : S118 := ⟨x.f0, x.f1.map cvEntry⟩
def fitC (x : S209) : Prop := x.f0.length ≤ 1048576 ∧ x.f1.length ≤ 1048576
theorem szCommit_ev (x : S209) (g : good209 x) (left : Int) (h0 : 0 ≤ left) (h1 : left ≤ 1048576) : ∃ r, Ev (fun k => laws_szCommit.f k x.f0 x.f1 left) r ∧ r ≤ left ∧ (0 ≤ r → fitC x) := by
  unfold laws_szCommit.f
  obtain ⟨r, hr, hrl, hrs⟩ := szIntS_ev x.f0 g.1.1 left h0 h1
  simp only [hr, Option.bind_some]
  by_cases hn : r < 0
  · exact ⟨-1, by simp only [hn, if_true]; exact Ev.now _, by omega, by omega⟩
  · obtain ⟨r', hr', hrl', hrs'⟩ := szEntryS_ev x.f1 g.2.1 g.2.2 r (by omega) (by omega)
    by_cases hn' : r' < 0
    · exact ⟨-1, by simp only [hn, if_false]; refine Ev.bind hr' ?_; simp only [hn', if_true]; exact Ev.now _, by omega, by omega⟩
    · exact ⟨r', by simp only [hn, if_false]; refine Ev.bind hr' ?_; simp only [hn', if_false]; exact Ev.now _, by omega, fun h => ⟨hrs (by omega), hrs' h⟩⟩
theorem ev_sz_loop2 {α : Type} {L : Nat → List α → Int → Int → Option Int} {g : Nat → α → Int → Option Int} {z : α} {P : α → Prop}
    (step : ∀ k xs left i, L (k + 1) xs left i = if i < (xs.length : Int) then (if 0 ≤ i then ((g k (xs.getD i.toNat z) left).bind fun t => (if t < 0 then some (-1) else L k xs t (wrap64 (i + 1)))) else none) else some left)
    (xs : List α) (hlen : xs.length ≤ 4611686018427387904) (hg : ∀ x, x ∈ xs → ∀ left : Int, 0 ≤ left → left ≤ 1048576 → ∃ r, Ev (fun k => g k x left) r ∧ r ≤ left ∧ (0 ≤ r → P x)) (left : Int) (h0 : 0 ≤ left) (h1 : left ≤ 1048576) :
    ∃ r, Ev (fun k => L k xs left 0) r ∧ r ≤ left ∧ (0 ≤ r → ∀ x, x ∈ xs → P x) := by
  have key : ∀ d (i : Nat) (left : Int), i + d = xs.length → 0 ≤ left → left ≤ 1048576 → ∃ r, Ev (fun k => L k xs left (i : Int)) r ∧ r ≤ left ∧ (0 ≤ r → ∀ x, x ∈ xs.drop i → P x) := by
    intro d
    induction d with
    | zero =>
      intro i left hi h0 h1
      refine ⟨left, Ev.step (f := fun _ => some left) (fun k => by rw [step, if_neg (by omega)]) (Ev.now left), by omega, fun _ x hx => ?_⟩
      rw [List.drop_eq_nil_of_le (by omega)] at hx
      cases hx
    | succ d ih =>
      intro i left hi h0 h1
      have hl : i < xs.length := by omega
      have hw : wrap64 ((i : Int) + 1) = ((i + 1 : Nat) : Int) := by unfold wrap64; omega
      have hx : xs.getD ((i : Int).toNat) z = xs[i] := by simp [List.getD_eq_getElem?_getD, List.getElem?_eq_getElem hl]
      obtain ⟨t, ht, htl, hP⟩ := hg _ (List.getElem_mem hl) left h0 h1
      have hstep : ∀ k, L (k + 1) xs left (i : Int) = (g k xs[i] left).bind fun t => if t < 0 then some (-1) else L k xs t ((i + 1 : Nat) : Int) := fun k => by rw [step, if_pos (by omega), if_pos (by omega), hx, hw]
      by_cases hn : t < 0
      · refine ⟨-1, Ev.step hstep (Ev.bind ht ?_), by omega, by omega⟩
        simp only [hn, if_true]
        exact Ev.now _
      · obtain ⟨r, hr, hrl, hrP⟩ := ih (i + 1) t (by omega) (by omega) (by omega)
        refine ⟨r, Ev.step hstep (Ev.bind ht ?_), by omega, fun h x hx => ?_⟩
        · simp only [hn, if_false]
          exact hr
        · rw [List.drop_eq_getElem_cons hl] at hx
          rcases List.mem_cons.mp hx with rfl | hx
          · exact hP (by omega)
          · exact hrP h x hx
  have h := key xs.length 0 left (by omega) h0 h1
  simpa using h
theorem szCommitS_ev (l : List S209) (hl : l.length ≤ 9223372036854775807) (hg : ∀ x, x ∈ l → good209 x) (left : Int) (h0 : 0 ≤ left) (h1 : left ≤ 1048576) :
    ∃ r, Ev (fun k => laws_szCommitS.f k l left) r ∧ r ≤ left ∧ (0 ≤ r → l.length ≤ 1048576 ∧ ∀ x, x ∈ l → fitC x) := by
  have hw : wrap64 (left - (l.length : Int)) = left - (l.length : Int) := by unfold wrap64; omega
  by_cases hn : left - (l.length : Int) < 0
  · refine ⟨-1, Ev.congr (f := fun _ => some (-1)) (fun k => ?_) (Ev.now _), by omega, by omega⟩
    unfold laws_szCommitS.f
    rw [hw, if_pos hn]
  · obtain ⟨r, hr, hrl, hrP⟩ := ev_sz_loop2 (L := laws_szCommitS.l0) (g := fun k x left => laws_szCommit.f k x.f0 x.f1 left) (z := z209) (P := fitC) (fun _ _ _ _ => rfl) l (by omega) (fun x hx left h0 h1 => szCommit_ev x (hg x hx) left h0 h1) (left - (l.length : Int)) (by omega) (by omega)
    refine ⟨r, Ev.congr (f := fun k => laws_szCommitS.l0 k l (left - (l.length : Int)) 0) (fun k => ?_) hr, by omega, fun h => ⟨by omega, hrP h⟩⟩
    unfold laws_szCommitS.f
    rw [hw, if_neg hn]
theorem toCommit_ev (x : S209) (h : fitC x) : Ev (fun k => laws_toCommit.f k x.f0 x.f1) (x.f0, x.f1.map cvEntry) := by
  unfold laws_toCommit.f
  exact Ev.bind (toIntS_ev _ h.1) (Ev.bind (toEntryS_ev _ h.2) (Ev.now _))
theorem toCommitS_ev (l : List S209) (h : l.length ≤ 1048576) (hf : ∀ x, x ∈ l → fitC x) : Ev (fun k => laws_toCommitS.f k l) (l.map cvCommit) := by
  refine Ev.congr (f := fun k => laws_toCommitS.l0 k l (List.replicate l.length z118) 0) (fun k => ?_) ?_
  · unfold laws_toCommitS.f
    rw [if_pos (by omega), if_pos (by omega)]
    rfl
  · exact ev_map_loop (L := laws_toCommitS.l0) (g := fun k x => (laws_toCommit.f k x.f0 x.f1).bind fun bt => some (⟨bt.1, bt.2⟩ : S118)) (cv := cvCommit) (z := z209) (fun k xs acc i => by
      simp only [laws_toCommitS.l0, Option.bind_assoc, Option.bind_some]
      rfl) l (by omega) (fun x hx => Ev.bind (toCommit_ev x (hf x hx)) (Ev.now _)) _ (by simp)
theorem eqCommitS_ev (l : List S118) (h : l.length ≤ 1048576) (hf : ∀ x, x ∈ l → x.f0.length ≤ 1048576 ∧ x.f1.length ≤ 1048576) : Ev (fun k => laws_eqCommitS.f k l l) true := by
  refine Ev.congr (f := fun k => laws_eqCommitS.l0 k l l 0) (fun k => ?_) ?_
  · unfold laws_eqCommitS.f
    rw [if_pos rfl]
  · exact ev_refl_loop (L := laws_eqCommitS.l0) (g := fun k x y => laws_eqCommit.f k x.f0 x.f1 y.f0 y.f1) (z := z118) (fun _ _ _ _ => rfl) l (by omega) (fun x hx => by
      unfold laws_eqCommit.f
      refine Ev.bind (eqIntS_ev _ (hf x hx).1) ?_
      simp only [if_true]
      refine Ev.bind (eqEntryS_ev _ (hf x hx).2) ?_
      simp only [if_true]
      exact Ev.now _)
theorem fit_cv {l : List S209} (hf : ∀ x, x ∈ l → fitC x) : ∀ x, x ∈ l.map cvCommit → x.f0.length ≤ 1048576 ∧ x.f1.length ≤ 1048576 := by
  intro x hx
  obtain ⟨y, hy, rfl⟩ := List.mem_map.mp hx
  exact ⟨(hf y hy).1, by simpa [cvCommit] using (hf y hy).2⟩
end Go.Proofs.Ytcpljigliklgcaa.Q
end

section
namespace Go.Proofs.Ytcpljigliklgcaa.Q
open Go.RowKit Go.Proofs.YtcpljigliklgcaaW.PrintWords Go.Proofs.YtcpljigliklgcaaW.PrintLast
set_option linter.unusedVariables false
def cvRef (x : S211) : S178 := ⟨x.f0, x.f1, x.f2, x.f3⟩
theorem toRefS_ev (l : List S211) (h : l.length ≤ 1048576) : Ev (fun k => laws_toRefS.f k l) (l.map cvRef) := by
  refine Ev.congr (f := fun k => laws_toRefS.l0 k l (List.replicate l.length z178) 0) (fun k => ?_) ?_
  · unfold laws_toRefS.f
    rw [if_pos (by omega), if_pos (by omega)]
    rfl
  · exact ev_map_loop (L := laws_toRefS.l0) (g := fun _ x => some (cvRef x)) (z := z211) (fun _ _ _ _ => rfl) l (by omega) (fun x _ => Ev.now _) _ (by simp)
theorem eqRef_refl (x : S178) : laws_eqRef.f x.f0 x.f1 x.f2 x.f3 x.f0 x.f1 x.f2 x.f3 = some true := by
  unfold laws_eqRef.f
  simp
theorem eqRefS_ev (l : List S178) (h : l.length ≤ 1048576) : Ev (fun k => laws_eqRefS.f k l l) true := by
  refine Ev.congr (f := fun k => laws_eqRefS.l0 k l l 0) (fun k => ?_) ?_
  · unfold laws_eqRefS.f
    rw [if_pos rfl]
  · exact ev_refl_loop (L := laws_eqRefS.l0) (g := fun _ x y => laws_eqRef.f x.f0 x.f1 x.f2 x.f3 y.f0 y.f1 y.f2 y.f3) (z := z178) (fun _ _ _ _ => rfl) l (by omega) (fun x _ => Ev.congr (fun _ => eqRef_refl x) (Ev.now _))
theorem szRefS_ev (l : List S211) (hl : l.length ≤ 9223372036854775807) (hg : ∀ x, x ∈ l → good211 x) (left : Int) (h0 : 0 ≤ left) (h1 : left ≤ 1048576) :
    ∃ r, Ev (fun k => laws_szRefS.f k l left) r ∧ r ≤ left ∧ (0 ≤ r → l.length ≤ 1048576) := by
  have hw : wrap64 (left - (l.length : Int)) = left - (l.length : Int) := by unfold wrap64; omega
  by_cases hn : left - (l.length : Int) < 0
  · refine ⟨-1, Ev.congr (f := fun _ => some (-1)) (fun k => ?_) (Ev.now _), by omega, by omega⟩
    unfold laws_szRefS.f
    rw [hw, if_pos hn]
  · obtain ⟨r, hr, hrl⟩ := ev_sz_loop (L := laws_szRefS.l0) (g := fun _ x left => laws_szRef.f x.f0 x.f1 x.f2 x.f3 left) (z := z211) (fun _ _ _ _ => rfl) l (by omega) (fun x hx left h0 h1 => by
      have hsz : x.f0.size ≤ 9223372036854775807 := (hg x hx).1
      have hw2 : wrap64 (left - (x.f0.size : Int)) = left - (x.f0.size : Int) := by unfold wrap64; omega
      by_cases h2 : left - (x.f0.size : Int) < 0
      · refine ⟨-1, Ev.congr (f := fun _ => some (-1)) (fun k => ?_) (Ev.now _), by omega⟩
        unfold laws_szRef.f
        rw [hw2, if_pos h2]
      · refine ⟨left - (x.f0.size : Int), Ev.congr (f := fun _ => some (left - (x.f0.size : Int))) (fun k => ?_) (Ev.now _), by omega⟩
        unfold laws_szRef.f
        rw [hw2, if_neg h2]) (left - (l.length : Int)) (by omega) (by omega)
    refine ⟨r, Ev.congr (f := fun k => laws_szRefS.l0 k l (left - (l.length : Int)) 0) (fun k => ?_) hr, by omega, by omega⟩
    unfold laws_szRefS.f
    rw [hw, if_neg hn]
end Go.Proofs.Ytcpljigliklgcaa.Q
end

section
namespace Go.Proofs.Ytcpljigliklgcaa.Q
open Go.RowKit Go.Proofs.YtcpljigliklgcaaW.PrintWords Go.Proofs.YtcpljigliklgcaaW.PrintLast
set_option linter.unusedVariables false
set_option linter.unusedSimpArgs false
theorem rdRef {l : List S178} {i : Nat} (h : i < l.length) : rd_T178 l (i : Int) = l[i] := by
  simp [rd_T178, List.getD_eq_getElem?_getD, List.getElem?_eq_getElem h]
theorem l04At_ev (l : List S178) (n : ByteArray) (hlen : l.length ≤ 1048576) : Ev (fun k => spec_l04At.f k l n) (placeI l n) := by
  refine ev_idx_loop (L := fun k i => spec_l04At.l0 k l n i) (q := isNm n) ?_ ?_ ?_
  · intro i hi hq k
    have hq2 : ¬ (l[i].f0.toList = n.toList) := by simpa [isNm] using hq
    have c1 : (i : Int) < (l.length : Int) := by omega
    simp only [spec_l04At.l0, rdRef hi, c1, hq2, if_true, if_false, Int.natCast_nonneg, wrap_i (show i < 4611686018427387904 by omega)]
  · intro i hi hq k
    have hq2 : l[i].f0.toList = n.toList := by simpa [isNm] using hq
    have c1 : (i : Int) < (l.length : Int) := by omega
    simp only [spec_l04At.l0, rdRef hi, c1, hq2, if_true, Int.natCast_nonneg]
  · intro k
    simp only [spec_l04At.l0]
    rw [if_neg (by omega)]
theorem placeI_self {l : List S178} {i : Nat} (hi : i < l.length) : (placeI l l[i].f0 = (i : Int)) ↔ placeI (l.take i) l[i].f0 < 0 := by
  have hself : isNm l[i].f0 l[i] = true := by simp [isNm]
  have e : l = l.take i ++ l[i] :: l.drop (i + 1) := by rw [← List.drop_eq_getElem_cons hi, List.take_append_drop]
  cases h : (l.take i).findIdx? (isNm l[i].f0) with
  | none =>
    have h1 : placeI (l.take i) l[i].f0 = -1 := by unfold placeI idxI; rw [h]
    have h0 := List.findIdx?_eq_none_iff.mp h
    have h2 : placeI l l[i].f0 = (i : Int) := idxI_some hi (fun j hj => by
      have hm : l[j] ∈ l.take i := List.mem_take_iff_getElem.mpr ⟨j, by omega, rfl⟩
      simpa using h0 _ hm) hself
    rw [h1, h2]
    simp
  | some j =>
    obtain ⟨hj, hp, hmin⟩ := List.findIdx?_eq_some_iff_getElem.mp h
    have hj2 : j < i := by rw [List.length_take] at hj; omega
    have h1 : placeI (l.take i) l[i].f0 = (j : Int) := by unfold placeI idxI; rw [h]
    have h2 : placeI l l[i].f0 = (j : Int) := idxI_some (by omega) (fun k hk => by
      have := hmin k hk
      simpa using this) (by simpa using hp)
    rw [h1, h2]
    constructor
    · intro h3
      omega
    · intro h3
      omega
def refAt (l : List S178) (i : Nat) : Bool := refB (rd_T178 l (i : Int)) && decide (placeI (l.take i) (rd_T178 l (i : Int)).f0 < 0)
theorem refsB_at (l : List S178) : refsB l = (decide (l.length ≤ 8) && allR (refAt l) l.length) := by
  unfold refsB refAt
  rw [allR_and, all_allR refB z178 l]
  rfl
theorem l04OK_ev (l : List S178) : Ev (fun k => spec_l04OK.f k l) (refsB l) := by
  by_cases h8 : l.length ≤ 8
  · have e : refsB l = (allR (refAt l) l.length && true) := by rw [refsB_at, decide_eq_true h8, Bool.true_and, Bool.and_true]
    rw [e]
    refine Ev.congr (f := fun k => spec_l04OK.l0 k l ((0 : Nat) : Int)) (fun k => by unfold spec_l04OK.f; rw [if_neg (by omega)]; rfl) ?_
    refine ev_all_loop2 (L := fun k i => spec_l04OK.l0 k l i) (p := refAt l) 0 ?_ ?_ (Ev.step (f := fun _ => some true) (fun k => by simp only [spec_l04OK.l0]; rw [if_neg (by omega)]) (Ev.now _)) (Nat.zero_le _) (fun j hj => absurd hj (Nat.not_lt_zero _))
    · intro i _ hi _ hp r hr
      have c1 : (i : Int) < (l.length : Int) := by omega
      have hw := wrap_i (show i < 4611686018427387904 by omega)
      unfold refAt at hp
      rw [rdRef hi] at hp
      simp only [Bool.and_eq_true, decide_eq_true_eq, refB] at hp
      obtain ⟨⟨⟨h1, h2⟩, h3⟩, h4⟩ := hp
      have h4' := (placeI_self hi).mpr h4
      refine Ev.succ (g := fun k => spec_l04OK.l0 k l (i : Int)) ?_
      simp only [spec_l04OK.l0, rdRef hi, c1, Int.natCast_nonneg, if_true]
      refine Ev.bind (h1 ▸ l00Word_ev _) ?_
      simp only [if_true, l01In_is, h2, Option.bind_some]
      refine Ev.bind (h4' ▸ l04At_ev l l[i].f0 (by omega)) ?_
      simp only [if_true, hw]
      cases h5 : l[i].f3 with
      | true =>
        rw [h5] at h3
        simp only [if_true, beq_iff_eq] at h3
        simp only [h3, if_true]
        exact hr
      | false =>
        rw [h5] at h3
        simp only [Bool.false_eq_true, if_false] at h3
        simp only [Bool.false_eq_true, if_false, h3, Option.bind_some, if_true]
        exact hr
    · intro i _ hi _ hp
      have c1 : (i : Int) < (l.length : Int) := by omega
      unfold refAt at hp
      rw [rdRef hi] at hp
      refine Ev.succ (g := fun k => spec_l04OK.l0 k l (i : Int)) ?_
      simp only [spec_l04OK.l0, rdRef hi, c1, Int.natCast_nonneg, if_true]
      refine Ev.bind (l00Word_ev _) ?_
      cases h1 : nameB l[i].f0 with
      | false => simp only [Bool.false_eq_true, if_false]; exact Ev.now _
      | true =>
        simp only [if_true, l01In_is, Option.bind_some]
        cases h2 : inB l[i].f2 1 1000000 with
        | false => simp only [Bool.false_eq_true, if_false]; exact Ev.now _
        | true =>
          simp only [if_true]
          refine Ev.bind (l04At_ev l l[i].f0 (by omega)) ?_
          by_cases h4 : placeI l l[i].f0 = (i : Int)
          · have h4' := (placeI_self hi).mp h4
            simp only [refB, h1, h2, Bool.true_and, decide_eq_true h4', Bool.and_true] at hp
            simp only [h4, if_true]
            cases h5 : l[i].f3 with
            | true =>
              rw [h5] at hp
              simp only [if_true, beq_eq_false_iff_ne] at hp
              simp only [if_true, hp, if_false]
              exact Ev.now _
            | false =>
              rw [h5] at hp
              simp only [Bool.false_eq_true, if_false] at hp
              simp only [Bool.false_eq_true, if_false, hp]
              exact Ev.now _
          · simp only [h4, if_false]
            exact Ev.now _
  · have e : refsB l = false := by unfold refsB; rw [decide_eq_false h8, Bool.false_and]
    rw [e]
    exact Ev.congr (f := fun _ => some false) (fun k => by unfold spec_l04OK.f; rw [if_pos (by omega)]) (Ev.now _)
theorem refsOK_ev (l : List S178) : Ev (fun k => impl_RefsOK.f k l) (refsB l) := by
  by_cases h8 : l.length ≤ 8
  · have n8 : ¬ ((l.length : Int) > 8) := by omega
    cases ha : l.all refB with
    | false =>
      have e : refsB l = false := by unfold refsB; rw [ha, Bool.false_and, Bool.and_false]
      rw [e]
      refine Ev.at_ (c := 1) (fun k => ?_)
      simp only [impl_RefsOK.f, n8, if_false, areAllRef_isRef.f, ha, Option.bind_some, impl_RefsOK.j0, Bool.not_false, if_true]
    | true =>
      have e : refsB l = (allR (fun j => decide (placeI (l.take j) (rd_T178 l (j : Int)).f0 < 0)) l.length && true) := by unfold refsB; rw [decide_eq_true h8, ha, Bool.true_and, Bool.true_and, Bool.and_true]
      rw [e]
      refine Ev.step (f := fun k => impl_RefsOK.l0 k l l (l.length : Int) 0) (fun k => ?_) ?_
      · simp only [impl_RefsOK.f, n8, if_false, areAllRef_isRef.f, ha, Option.bind_some, impl_RefsOK.j0, Bool.not_true, Bool.false_eq_true]
      · refine ev_all_loop (L := fun k i => impl_RefsOK.l0 k l l (l.length : Int) i) ?_ ?_ ?_
        · intro i hi _ hp
          refine ⟨1, 0, fun k => ?_⟩
          have c1 : (i : Int) < (l.length : Int) := by omega
          have c2 : (i : Int) ≤ (l.length : Int) := by omega
          have c3 : ¬ (placeI (l.take i) (rd_T178 l (i : Int)).f0 ≥ 0) := by simp only [decide_eq_true_eq] at hp; omega
          simp only [impl_RefsOK.l0, c1, c2, Int.natCast_nonneg, if_true, impl_place.f, Option.bind_some, Int.toNat_natCast, c3, if_false, wrap_i (show i < 4611686018427387904 by omega), Nat.add_zero]
        · intro i hi _ hp
          refine ⟨1, fun k => ?_⟩
          have c1 : (i : Int) < (l.length : Int) := by omega
          have c2 : (i : Int) ≤ (l.length : Int) := by omega
          have c3 : placeI (l.take i) (rd_T178 l (i : Int)).f0 ≥ 0 := by simp only [decide_eq_false_iff_not] at hp; omega
          simp only [impl_RefsOK.l0, c1, c2, Int.natCast_nonneg, if_true, impl_place.f, Option.bind_some, Int.toNat_natCast, c3]
        · refine Ev.at_ (c := 1) (fun k => ?_)
          simp only [impl_RefsOK.l0]
          rw [if_neg (by omega)]
  · have e : refsB l = false := by unfold refsB; rw [decide_eq_false h8, Bool.false_and]
    rw [e]
    refine Ev.at_ (c := 1) (fun k => ?_)
    unfold impl_RefsOK.f
    rw [if_pos (by omega)]
    simp only [impl_RefsOK.j0, if_true]
end Go.Proofs.Ytcpljigliklgcaa.Q
end

section
namespace Go.Proofs.Ytcpljigliklgcaa.Q
open Go.RowKit Go.Proofs.YtcpljigliklgcaaW.PrintWords Go.Proofs.YtcpljigliklgcaaW.PrintLast
set_option linter.unusedVariables false
set_option linter.unusedSimpArgs false
theorem szBase_ev (a : List S209) (b : List S211) (ha : a.length ≤ 9223372036854775807 ∧ ∀ x, x ∈ a → good209 x) (hb : b.length ≤ 9223372036854775807 ∧ ∀ x, x ∈ b → good211 x) (left : Int) (h0 : 0 ≤ left) (h1 : left ≤ 1048576) :
    ∃ r, Ev (fun k => laws_szBase.f k a b left) r ∧ r ≤ left ∧ (0 ≤ r → (a.length ≤ 1048576 ∧ ∀ x, x ∈ a → fitC x) ∧ b.length ≤ 1048576) := by
  obtain ⟨r, hr, hrl, hrs⟩ := szCommitS_ev a ha.1 ha.2 left h0 h1
  unfold laws_szBase.f
  by_cases hn : r < 0
  · exact ⟨-1, Ev.bind hr (by simp only [hn, if_true]; exact Ev.now _), by omega, by omega⟩
  · obtain ⟨r2, hr2, hrl2, hrs2⟩ := szRefS_ev b hb.1 hb.2 r (by omega) (by omega)
    by_cases hn2 : r2 < 0
    · exact ⟨-1, Ev.bind hr (by simp only [hn, if_false]; exact Ev.bind hr2 (by simp only [hn2, if_true]; exact Ev.now _)), by omega, by omega⟩
    · exact ⟨r2, Ev.bind hr (by simp only [hn, if_false]; exact Ev.bind hr2 (by simp only [hn2, if_false]; exact Ev.now _)), by omega, fun h => ⟨hrs (by omega), hrs2 h⟩⟩
theorem toBase_ev (a : List S209) (b : List S211) (ha : a.length ≤ 1048576) (hf : ∀ x, x ∈ a → fitC x) (hb : b.length ≤ 1048576) : Ev (fun k => laws_toBase.f k a b) (a.map cvCommit, b.map cvRef) := by
  unfold laws_toBase.f
  exact Ev.bind (toCommitS_ev a ha hf) (Ev.bind (toRefS_ev b hb) (Ev.now _))
theorem eqBase_ev (a : List S118) (b : List S178) (ha : a.length ≤ 1048576) (hf : ∀ x, x ∈ a → x.f0.length ≤ 1048576 ∧ x.f1.length ≤ 1048576) (hb : b.length ≤ 1048576) : Ev (fun k => laws_eqBase.f k a b a b) true := by
  unfold laws_eqBase.f
  refine Ev.bind (eqCommitS_ev a ha hf) ?_
  simp only [if_true]
  refine Ev.bind (eqRefS_ev b hb) ?_
  simp only [if_true]
  exact Ev.now _
def baseB (st : List S118) (rf : List S178) : Bool := storeB st && (refsB rf && rf.all (fun x => decide (x.f1 ≤ (st.length : Int))))
theorem refsB_few {l : List S178} (h : refsB l = true) : l.length ≤ 8 := by
  unfold refsB at h
  simp only [Bool.and_eq_true, decide_eq_true_eq] at h
  exact h.1
theorem l05OK_ev (st : List S118) (rf : List S178) : Ev (fun k => spec_l05OK.f k st rf) (baseB st rf) := by
  unfold spec_l05OK.f baseB
  refine Ev.bind (l03OK_ev st) ?_
  cases hs : storeB st with
  | false =>
    simp only [Bool.false_eq_true, if_false, Bool.false_and]
    exact Ev.at_ (c := 1) (fun k => by simp only [spec_l05OK.j0, if_true])
  | true =>
    simp only [if_true, Bool.true_and]
    refine Ev.bind (l04OK_ev rf) ?_
    cases hr : refsB rf with
    | false =>
      simp only [Bool.false_and, Bool.not_false]
      exact Ev.at_ (c := 1) (fun k => by simp only [spec_l05OK.j0, if_true])
    | true =>
      have h8 := refsB_few hr
      simp only [Bool.true_and, Bool.not_true]
      refine Ev.succ ?_
      simp only [spec_l05OK.j0, Bool.false_eq_true, if_false]
      have h := ev_all_loop (L := fun k i => spec_l05OK.l0 k i st rf) (n := rf.length) (p := fun i => decide ((rf.getD i z178).f1 ≤ (st.length : Int))) (fin := true) (fun i hi _ hp => by
        have c1 : (i : Int) < (rf.length : Int) := by omega
        have e1 : rd_T178 rf (i : Int) = rf.getD i z178 := rfl
        rw [decide_eq_true_eq] at hp
        have c2 : ¬ (rf.getD i z178).f1 > (st.length : Int) := by omega
        exact ⟨1, 0, fun k => by simp only [spec_l05OK.l0, c1, Int.natCast_nonneg, if_true, e1, c2, if_false, wrap_i (show i < 4611686018427387904 by omega), Nat.add_zero]⟩) (fun i hi _ hp => by
        have c1 : (i : Int) < (rf.length : Int) := by omega
        have e1 : rd_T178 rf (i : Int) = rf.getD i z178 := rfl
        rw [decide_eq_false_iff_not] at hp
        have c2 : (rf.getD i z178).f1 > (st.length : Int) := by omega
        exact ⟨1, fun k => by simp only [spec_l05OK.l0, c1, Int.natCast_nonneg, if_true, e1, c2]⟩) (Ev.at_ (c := 1) (fun k => by
        simp only [spec_l05OK.l0]
        rw [if_neg (by omega)]))
      rw [Bool.and_true] at h
      rw [all_allR (fun x => decide (x.f1 ≤ (st.length : Int))) z178 rf]
      exact h
theorem baseOK_ev (st : List S118) (rf : List S178) (hs : st.length ≤ 1048576) (hf : ∀ x, x ∈ st → x.f1.length ≤ 1048576) : Ev (fun k => impl_BaseOK.f k st rf) (baseB st rf) := by
  unfold impl_BaseOK.f baseB
  refine Ev.bind (storeOK_ev st hs hf) ?_
  cases storeB st with
  | false => simp only [Bool.false_eq_true, if_false, Bool.false_and]; exact Ev.now _
  | true =>
    simp only [if_true, Bool.true_and]
    refine Ev.bind (refsOK_ev rf) ?_
    cases refsB rf with
    | false => simp only [Bool.false_eq_true, if_false, Bool.false_and]; exact Ev.now _
    | true => simp only [if_true, Bool.true_and, areAllRef_baseOK.f, Option.bind_some]; exact Ev.now _
end Go.Proofs.Ytcpljigliklgcaa.Q
end

section
namespace Go.Proofs.Ytcpljigliklgcaa.Pure
open Go.RowKit Go.Proofs.Ytcpljigliklgcaa.Q Go.Proofs.YtcpljigliklgcaaW.PrintWords Go.Proofs.YtcpljigliklgcaaW.PrintLast
set_option linter.unusedVariables false
set_option linter.unusedSimpArgs false
def stepR (o n : S178) : Bool :=
  if n.f0.toList = o.f0.toList then (if n.f2 < o.f2 then false else (if n.f2 = o.f2 then (if (!((n.f0.toList) == (o.f0.toList)) || (!(n.f1 == o.f1) || (!(n.f2 == o.f2) || (!(n.f3 == o.f3))))) = true then false else true) else true)) else false
theorem stepS (k : Nat) (i : Int) (a : List S118) (b : List S178) (c : List S118) (d : List S178) (h0 : 0 ≤ i) (h1 : i < (b.length : Int)) (h2 : i < (d.length : Int)) :
    spec_l10Grows.l0 (k + 1) i a b c d = if stepR (rd_T178 b i) (rd_T178 d i) = true then spec_l10Grows.l0 k (wrap64 (i + 1)) a b c d else some false := by
  rw [spec_l10Grows.l0]
  simp only [h0, h1, h2, if_true]
  unfold stepR
  split <;> try (split <;> try (split <;> try split))
  all_goals first | rfl | simp_all
theorem stepI (k : Nat) (i : Int) (a : List S118) (b : List S178) (c : List S118) (d : List S178) (h0 : 0 ≤ i) (h1 : i < (b.length : Int)) (h2 : i < (d.length : Int)) :
    impl_Base_grows.l0 (k + 1) b (b.length : Int) i c d = if stepR (rd_T178 b i) (rd_T178 d i) = true then impl_Base_grows.l0 k b (b.length : Int) (wrap64 (i + 1)) c d else some false := by
  rw [impl_Base_grows.l0]
  simp only [h0, h1, h2, if_true]
  unfold stepR
  split <;> try (split <;> try (split <;> try split))
  all_goals first | rfl | simp_all
theorem grows_loops (a : List S118) (b : List S178) (c : List S118) (d : List S178) (hl : b.length ≤ d.length) (hb : b.length ≤ 1048576) :
    ∃ r, Ev (fun k => spec_l10Grows.l0 k 0 a b c d) r ∧ Ev (fun k => impl_Base_grows.l0 k b (b.length : Int) 0 c d) r := by
  refine ⟨_, ev_all_loop (L := fun k i => spec_l10Grows.l0 k i a b c d) (n := b.length) (p := fun i => stepR (rd_T178 b (i : Int)) (rd_T178 d (i : Int))) (fin := true) (fun i hi _ hp => ⟨1, 0, fun k => ?_⟩) (fun i hi _ hp => ⟨1, fun k => ?_⟩) (Ev.at_ (c := 1) (fun k => ?_)),
    ev_all_loop (L := fun k i => impl_Base_grows.l0 k b (b.length : Int) i c d) (n := b.length) (p := fun i => stepR (rd_T178 b (i : Int)) (rd_T178 d (i : Int))) (fin := true) (fun i hi _ hp => ⟨1, 0, fun k => ?_⟩) (fun i hi _ hp => ⟨1, fun k => ?_⟩) (Ev.at_ (c := 1) (fun k => ?_))⟩
  · show spec_l10Grows.l0 (k + 1) (i : Int) a b c d = _
    rw [stepS k i a b c d (by omega) (by omega) (by omega), if_pos hp, wrap_i (show i < 4611686018427387904 by omega)]
    simp only [Nat.add_zero]
  · show spec_l10Grows.l0 (k + 1) (i : Int) a b c d = _
    rw [stepS k i a b c d (by omega) (by omega) (by omega), hp]
    simp only [Bool.false_eq_true, if_false]
  · show spec_l10Grows.l0 (k + 1) (b.length : Int) a b c d = _
    rw [spec_l10Grows.l0, if_neg (by omega)]
  · show impl_Base_grows.l0 (k + 1) b (b.length : Int) (i : Int) c d = _
    rw [stepI k i a b c d (by omega) (by omega) (by omega), if_pos hp, wrap_i (show i < 4611686018427387904 by omega)]
    simp only [Nat.add_zero]
  · show impl_Base_grows.l0 (k + 1) b (b.length : Int) (i : Int) c d = _
    rw [stepI k i a b c d (by omega) (by omega) (by omega), hp]
    simp only [Bool.false_eq_true, if_false]
  · show impl_Base_grows.l0 (k + 1) b (b.length : Int) (b.length : Int) c d = _
    rw [impl_Base_grows.l0, if_neg (by omega)]
theorem grows_both (a : List S118) (b : List S178) (c : List S118) (d : List S178) (ha : a.length ≤ 1048576) (hf : ∀ x, x ∈ a → x.f0.length ≤ 1048576 ∧ x.f1.length ≤ 1048576) (hb : b.length ≤ 1048576) :
    ∃ r, Ev (fun k => spec_l10Grows.f k a b c d) r ∧ Ev (fun k => impl_Base_grows.f k c d a b) r := by
  unfold spec_l10Grows.f impl_Base_grows.f
  by_cases h1 : (c.length : Int) < (a.length : Int)
  · simp only [h1, if_true]
    exact ⟨false, Ev.at_ (c := 1) (fun k => by simp only [spec_l10Grows.j0, if_true]), Ev.at_ (c := 1) (fun k => by simp only [impl_Base_grows.j0, if_true])⟩
  by_cases h2 : (d.length : Int) < (b.length : Int)
  · simp only [h1, h2, if_false, if_true]
    exact ⟨false, Ev.at_ (c := 1) (fun k => by simp only [spec_l10Grows.j0, if_true]), Ev.at_ (c := 1) (fun k => by simp only [impl_Base_grows.j0, if_true])⟩
  have h3 : (a.length : Int) ≤ (c.length : Int) := by omega
  simp only [h1, h2, h3, if_false, if_true, Int.natCast_nonneg, Int.toNat_natCast]
  have hs := l03Same_is a (c.take a.length) ha hf
  rw [eqCommits_is hf]
  simp only [Option.bind_some]
  obtain ⟨r, g1, g2⟩ := grows_loops a b c d (by omega) hb
  cases he : eqL comB a (c.take a.length) with
  | false =>
    rw [he] at hs
    exact ⟨false, Ev.bind hs (Ev.at_ (c := 1) (fun k => by simp only [spec_l10Grows.j0, Bool.not_false, if_true])), Ev.at_ (c := 1) (fun k => by simp only [impl_Base_grows.j0, Bool.not_false, if_true])⟩
  | true =>
    rw [he] at hs
    refine ⟨r, Ev.bind hs (Ev.succ ?_), Ev.succ ?_⟩
    · simp only [spec_l10Grows.j0, Bool.not_true, Bool.false_eq_true, if_false]
      exact g1
    · simp only [impl_Base_grows.j0, Bool.not_true, Bool.false_eq_true, if_false]
      exact g2
theorem from_both (a : List S118) (b : List S178) (c : List S118) (d : List S178) (ha : a.length ≤ 1048576) (hf : ∀ x, x ∈ a → x.f0.length ≤ 1048576 ∧ x.f1.length ≤ 1048576) (hb : b.length ≤ 1048576) (hc : c.length ≤ 1048576) (hg : ∀ x, x ∈ c → x.f0.length ≤ 1048576 ∧ x.f1.length ≤ 1048576) :
    ∃ r s, Ev (fun k => spec_GrowsFrom.f k a b c d) (r, s) ∧ Ev (fun k => impl_GrowsFrom.f k a b c d) (r, s) := by
  unfold spec_GrowsFrom.f impl_GrowsFrom.f
  have hS := l05OK_ev a b
  have hI := baseOK_ev a b ha (fun x hx => (hf x hx).2)
  have hS2 := l05OK_ev c d
  have hI2 := baseOK_ev c d hc (fun x hx => (hg x hx).2)
  cases hB : baseB a b with
  | false =>
    rw [hB] at hS hI
    exact ⟨_, _, Ev.bind hS (by simp only [Bool.false_eq_true, if_false]; exact Ev.now _), Ev.bind hI (by simp only [Bool.false_eq_true, if_false]; exact Ev.now _)⟩
  | true =>
    rw [hB] at hS hI
    cases hC : baseB c d with
    | false =>
      rw [hC] at hS2 hI2
      exact ⟨_, _, Ev.bind hS (by simp only [if_true]; exact Ev.bind hS2 (by simp only [Bool.false_eq_true, if_false]; exact Ev.now _)), Ev.bind hI (by simp only [if_true]; exact Ev.bind hI2 (by simp only [Bool.false_eq_true, if_false]; exact Ev.now _))⟩
    | true =>
      rw [hC] at hS2 hI2
      obtain ⟨r, g1, g2⟩ := grows_both a b c d ha hf hb
      exact ⟨r, 0, Ev.bind hS (by simp only [if_true]; exact Ev.bind hS2 (by simp only [if_true]; exact Ev.bind g1 (Ev.now _))), Ev.bind hI (by simp only [if_true]; exact Ev.bind hI2 (by simp only [if_true]; exact Ev.bind g2 (Ev.now _)))⟩
theorem FnExactGrowsFrom : laws_FnExactGrowsFrom.Pure := by
  intro l0 l1 m0 m1 w0 w1
  refine Ev.rounds ?_
  unfold laws_FnExactGrowsFrom.f
  obtain ⟨r, hr, hrl, hrs⟩ := szBase_ev l0 l1 w0.1 w0.2 1048576 (by omega) (by omega)
  refine Ev.bind hr ?_
  by_cases hn : r < 0
  · simp only [hn, if_true]
    exact Ev.now _
  simp only [hn, if_false]
  obtain ⟨r2, hr2, hrl2, hrs2⟩ := szBase_ev m0 m1 w1.1 w1.2 r (by omega) (by omega)
  refine Ev.bind hr2 ?_
  by_cases hn2 : r2 < 0
  · simp only [hn2, if_true]
    exact Ev.now _
  simp only [hn2, if_false]
  obtain ⟨⟨hl, hf⟩, hb⟩ := hrs (by omega)
  obtain ⟨⟨hl', hf'⟩, hb'⟩ := hrs2 (by omega)
  have ht := toBase_ev l0 l1 hl hf hb
  have ht' := toBase_ev m0 m1 hl' hf' hb'
  have hf2 := fit_cv hf
  have hf2' := fit_cv hf'
  have hl2 : (l0.map cvCommit).length ≤ 1048576 := by simpa using hl
  have hl2' : (m0.map cvCommit).length ≤ 1048576 := by simpa using hl'
  have hb2 : (l1.map cvRef).length ≤ 1048576 := by simpa using hb
  have hb2' : (m1.map cvRef).length ≤ 1048576 := by simpa using hb'
  obtain ⟨q, s, hs, hi⟩ := from_both (l0.map cvCommit) (l1.map cvRef) (m0.map cvCommit) (m1.map cvRef) hl2 hf2 hb2 hl2' hf2'
  refine Ev.bind ht (Ev.bind ht' (Ev.bind hs (Ev.bind ht (Ev.bind ht' (Ev.bind hi ?_)))))
  simp only [bne_self_eq_false, Bool.false_eq_true, if_false]
  refine Ev.succ ?_
  simp only [laws_FnExactGrowsFrom.j0, Bool.false_eq_true, if_false]
  refine Ev.bind ht (Ev.bind (eqBase_ev _ _ hl2 hf2 hb2) ?_)
  simp only [if_true]
  refine Ev.bind ht' (Ev.bind (eqBase_ev _ _ hl2' hf2' hb2') ?_)
  simp only [if_true]
  exact Ev.now _
end Go.Proofs.Ytcpljigliklgcaa.Pure
end
