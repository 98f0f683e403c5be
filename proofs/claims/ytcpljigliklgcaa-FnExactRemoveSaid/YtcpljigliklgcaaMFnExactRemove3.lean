/- Parts of the proof of the law FnExactRemove, joined into one text. -/
import Derived.Test.YtcpljigliklgcaaMFnExactRemove2
section
namespace Go.Proofs.Ytcpljigliklgcaa.Q
open Go.RowKit Go.Proofs.YtcpljigliklgcaaW.PrintWords Go.Proofs.YtcpljigliklgcaaW.PrintLast Go.Proofs.YtcpljigliklgcaaW.PrintMore
attribute [local go_sem] max2_int min2_int max_two min_two max_three min_three max_four min_four   -- for this text's walks alone
set_option linter.unusedVariables false
set_option linter.unusedSimpArgs false
attribute [local go_sem] bin_leq bin_gtr bin_geq
theorem ev_map_loop {α β : Type} {L : Nat → List α → List β → Int → Option (List β)} {g : Nat → α → Option β} {cv : α → β} {z : α}
    (step : ∀ k xs acc i, L (k + 1) xs acc i = if i < (xs.length : Int) then (if 0 ≤ i then ((g k (xs.getD i.toNat z)).bind fun y => (if i < (acc.length : Int) then (L k xs (acc.set i.toNat y) (wrap64 (i + 1))) else none)) else none) else some acc)
    (xs : List α) (hlen : xs.length ≤ 4611686018427387904) (hg : ∀ x, x ∈ xs → Ev (fun k => g k x) (cv x)) (acc : List β) (ha : acc.length = xs.length) : Ev (fun k => L k xs acc 0) (xs.map cv) := by
  have key : ∀ d (i : Nat) (acc : List β), i + d = xs.length → acc.length = xs.length → Ev (fun k => L k xs acc (i : Int)) (acc.take i ++ (xs.drop i).map cv) := by
    intro d
    induction d with
    | zero =>
      intro i acc hi ha
      refine Ev.step (f := fun _ => some acc) (fun k => by rw [step, if_neg (by omega)]) ?_
      rw [List.take_of_length_le (by omega), List.drop_eq_nil_of_le (by omega)]
      simpa using Ev.now acc
    | succ d ih =>
      intro i acc hi ha
      have hl : i < xs.length := by omega
      have hw : wrap64 ((i : Int) + 1) = ((i + 1 : Nat) : Int) := by unfold wrap64; omega
      have hx : xs.getD ((i : Int).toNat) z = xs[i] := by simp [List.getD_eq_getElem?_getD, List.getElem?_eq_getElem hl]
      refine Ev.step (f := fun k => (g k xs[i]).bind fun y => L k xs (acc.set i y) ((i + 1 : Nat) : Int)) (fun k => ?_) ?_
      · rw [step, if_pos (by omega), if_pos (by omega), hx, hw]
        congr 1
        funext y
        rw [if_pos (by omega)]
        simp
      · have h2 := ih (i + 1) (acc.set i (cv xs[i])) (by omega) (by simpa using ha)
        have e : (acc.set i (cv xs[i])).take (i + 1) ++ (xs.drop (i + 1)).map cv = acc.take i ++ (xs.drop i).map cv := by
          rw [List.drop_eq_getElem_cons hl, List.map_cons, List.take_succ_eq_append_getElem (by simpa using (show i < acc.length by omega)), List.take_set_of_le (by omega)]
          simp
        rw [e] at h2
        exact Ev.bind (hg _ (List.getElem_mem hl)) h2
  have h := key xs.length 0 acc (by omega) ha
  simpa using h
theorem ev_refl_loop {α : Type} {L : Nat → List α → List α → Int → Option Bool} {g : Nat → α → α → Option Bool} {z : α}
    (step : ∀ k xs ys i, L (k + 1) xs ys i = if i < (xs.length : Int) then (if 0 ≤ i then (if i < (ys.length : Int) then ((g k (xs.getD i.toNat z) (ys.getD i.toNat z)).bind fun t => (if t = true then L k xs ys (wrap64 (i + 1)) else some false)) else none) else none) else some true)
    (xs : List α) (hlen : xs.length ≤ 4611686018427387904) (hg : ∀ x, x ∈ xs → Ev (fun k => g k x x) true) : Ev (fun k => L k xs xs 0) true := by
  have key : ∀ d (i : Nat), i + d = xs.length → Ev (fun k => L k xs xs (i : Int)) true := by
    intro d
    induction d with
    | zero =>
      intro i hi
      exact Ev.step (f := fun _ => some true) (fun k => by rw [step, if_neg (by omega)]) (Ev.now true)
    | succ d ih =>
      intro i hi
      have hl : i < xs.length := by omega
      have hw : wrap64 ((i : Int) + 1) = ((i + 1 : Nat) : Int) := by unfold wrap64; omega
      have hx : xs.getD ((i : Int).toNat) z = xs[i] := by simp [List.getD_eq_getElem?_getD, List.getElem?_eq_getElem hl]
      refine Ev.step (f := fun k => (g k xs[i] xs[i]).bind fun t => if t = true then L k xs xs ((i + 1 : Nat) : Int) else some false) (fun k => ?_) ?_
      · rw [step, if_pos (by omega), if_pos (by omega), if_pos (by omega), hx, hw]
      · refine Ev.bind (hg _ (List.getElem_mem hl)) ?_
        simp only [if_true]
        exact ih (i + 1) (by omega)
  exact key xs.length 0 (by omega)
theorem ev_sz_loop {α : Type} {L : Nat → List α → Int → Int → Option Int} {g : Nat → α → Int → Option Int} {z : α}
    (step : ∀ k xs left i, L (k + 1) xs left i = if i < (xs.length : Int) then (if 0 ≤ i then ((g k (xs.getD i.toNat z) left).bind fun t => (if t < 0 then some (-1) else L k xs t (wrap64 (i + 1)))) else none) else some left)
    (xs : List α) (hlen : xs.length ≤ 4611686018427387904) (hg : ∀ x, x ∈ xs → ∀ left : Int, 0 ≤ left → left ≤ 1048576 → ∃ r, Ev (fun k => g k x left) r ∧ r ≤ left) (left : Int) (h0 : 0 ≤ left) (h1 : left ≤ 1048576) :
    ∃ r, Ev (fun k => L k xs left 0) r ∧ r ≤ left := by
  have key : ∀ d (i : Nat) (left : Int), i + d = xs.length → 0 ≤ left → left ≤ 1048576 → ∃ r, Ev (fun k => L k xs left (i : Int)) r ∧ r ≤ left := by
    intro d
    induction d with
    | zero =>
      intro i left hi h0 h1
      exact ⟨left, Ev.step (f := fun _ => some left) (fun k => by rw [step, if_neg (by omega)]) (Ev.now left), by omega⟩
    | succ d ih =>
      intro i left hi h0 h1
      have hl : i < xs.length := by omega
      have hw : wrap64 ((i : Int) + 1) = ((i + 1 : Nat) : Int) := by unfold wrap64; omega
      have hx : xs.getD ((i : Int).toNat) z = xs[i] := by simp [List.getD_eq_getElem?_getD, List.getElem?_eq_getElem hl]
      obtain ⟨t, ht, htl⟩ := hg _ (List.getElem_mem hl) left h0 h1
      by_cases hn : t < 0
      · refine ⟨-1, Ev.step (f := fun k => (g k xs[i] left).bind fun t => if t < 0 then some (-1) else L k xs t ((i + 1 : Nat) : Int)) (fun k => ?_) (Ev.bind ht ?_), by omega⟩
        · rw [step, if_pos (by omega), if_pos (by omega), hx, hw]
        · simp only [hn, if_true]
          exact Ev.now _
      · obtain ⟨r, hr, hrl⟩ := ih (i + 1) t (by omega) (by omega) (by omega)
        refine ⟨r, Ev.step (f := fun k => (g k xs[i] left).bind fun t => if t < 0 then some (-1) else L k xs t ((i + 1 : Nat) : Int)) (fun k => ?_) (Ev.bind ht ?_), by omega⟩
        · rw [step, if_pos (by omega), if_pos (by omega), hx, hw]
        · simp only [hn, if_false]
          exact hr
  exact key xs.length 0 left (by omega) h0 h1
end Go.Proofs.Ytcpljigliklgcaa.Q
end

section
namespace Go.Proofs.Ytcpljigliklgcaa.Q
open Go.RowKit Go.Proofs.YtcpljigliklgcaaW.PrintWords Go.Proofs.YtcpljigliklgcaaW.PrintLast
set_option linter.unusedVariables false
theorem Ev.at_ {α : Type} {g : Nat → Option α} {r : α} {c : Nat} (e : ∀ k, g (k + c) = some r) : Ev g r := by
  refine ⟨c, fun n hn => ?_⟩
  obtain ⟨m, rfl⟩ : ∃ m, n = m + c := ⟨n - c, by omega⟩
  exact e m
theorem Ev.succ {α : Type} {g : Nat → Option α} {r : α} (h : Ev (fun k => g (k + 1)) r) : Ev g r := Ev.step (fun _ => rfl) h
theorem ev_idx_loop {α : Type} {L : Nat → Int → Option Int} {l : List α} {q : α → Bool}
    (step : ∀ (i : Nat) (hi : i < l.length), q l[i] = false → ∀ k, L (k + 1) (i : Int) = L k ((i + 1 : Nat) : Int))
    (stop : ∀ (i : Nat) (hi : i < l.length), q l[i] = true → ∀ k, L (k + 1) (i : Int) = some (i : Int))
    (done : ∀ k, L (k + 1) (l.length : Int) = some (-1)) : Ev (fun k => L k 0) (idxI q l) := by
  have key : ∀ d (i : Nat), i + d = l.length → (∀ j (hj : j < l.length), j < i → q l[j] = false) → Ev (fun k => L k (i : Int)) (idxI q l) := by
    intro d
    induction d with
    | zero =>
      intro i hi hp
      obtain rfl : i = l.length := by omega
      rw [idxI_none (fun j hj => hp j hj hj)]
      exact Ev.at_ (c := 1) done
    | succ d ih =>
      intro i hi hp
      cases h : q (l[i]'(by omega)) with
      | false =>
        refine Ev.step (step i (by omega) h) (ih (i + 1) (by omega) (fun j hj h2 => ?_))
        rcases Nat.lt_or_eq_of_le (Nat.le_of_lt_succ h2) with h1 | h1
        · exact hp j hj h1
        · subst h1; exact h
      | true =>
        rw [idxI_some (by omega) (fun j hj => hp j (by omega) hj) h]
        exact Ev.at_ (c := 1) (stop i (by omega) h)
  exact key l.length 0 (by omega) (fun j _ hj => absurd hj (Nat.not_lt_zero _))
theorem wrap_i {i : Nat} (h : i < 4611686018427387904) : wrap64 ((i : Int) + 1) = ((i + 1 : Nat) : Int) := by unfold wrap64; omega
end Go.Proofs.Ytcpljigliklgcaa.Q
end

section
namespace Go.Proofs.Ytcpljigliklgcaa.Q
open Go.RowKit Go.Proofs.YtcpljigliklgcaaW.PrintWords Go.Proofs.YtcpljigliklgcaaW.PrintLast
set_option linter.unusedVariables false
set_option linter.unusedSimpArgs false
theorem rdEntry {l : List S51} {i : Nat} (h : i < l.length) : rd_T51 l (i : Int) = l[i] := by
  simp [rd_T51, List.getD_eq_getElem?_getD, List.getElem?_eq_getElem h]
end Go.Proofs.Ytcpljigliklgcaa.Q
end

section
namespace Go.Proofs.Ytcpljigliklgcaa.Q
open Go.RowKit Go.Proofs.YtcpljigliklgcaaW.PrintWords Go.Proofs.YtcpljigliklgcaaW.PrintLast
set_option linter.unusedVariables false
set_option linter.unusedSimpArgs false
theorem mapB_len {l : List S51} (h : mapB l = true) : l.length ≤ 12 := by
  unfold mapB at h
  simp only [Bool.and_eq_true, decide_eq_true_eq] at h
  exact h.1
theorem mapB_rise {l : List S51} (h : mapB l = true) : RiseP l := by
  unfold mapB at h
  simp only [Bool.and_eq_true, allR_iff] at h
  have adj : ∀ j (hj : j + 1 < l.length), sblt l[j].f0 l[j + 1].f0 = true := by
    intro j hj
    have h2 := h.2 (j + 1) hj
    unfold entAt at h2
    have e : (((j + 1 : Nat) : Int) - 1) = (j : Int) := by omega
    rw [e, rdEntry (i := j) (by omega), rdEntry hj] at h2
    have z : (j + 1 == 0) = false := rfl
    simp only [z, Bool.false_or, Bool.and_eq_true] at h2
    exact h2.2
  unfold RiseP
  rw [List.pairwise_iff_getElem]
  intro i j hi hj hij
  obtain ⟨d, rfl⟩ : ∃ d, j = i + 1 + d := ⟨j - (i + 1), by omega⟩
  induction d with
  | zero => exact adj i hj
  | succ d ih => exact sblt_trans (ih (by omega) (by omega)) (adj (i + 1 + d) hj)
theorem cmpK_self {k : ByteArray} {x : S51} : cmpK k x = 0 ↔ x.f0 = k := by
  unfold cmpK cmpB
  rw [cmp_eq]
  constructor
  · intro h
    apply toList_inj
    rw [ByteArray.toList_eq, ByteArray.toList_eq, h]
  · intro h; rw [h]
theorem find_some {l : List S51} {k : ByteArray} {i : Nat} (h : RiseP l) (hi : i < l.length) (hk : l[i].f0 = k) : cntN (cmpK k) l = i ∧ fndB (cmpK k) l = true := by
  have hp := List.pairwise_iff_getElem.mp h
  have hc : cntN (cmpK k) l = i := by
    refine cntN_is l i (by omega) (fun t ht h2 => ?_) (fun t ht h2 => ?_)
    · rw [cmpK_lt, ← hk]
      exact hp t i ht hi h2
    · have h3 : ¬ cmpK k l[t] < 0 := by
        rw [cmpK_lt, ← hk]
        rcases Nat.lt_or_eq_of_le h2 with h4 | h4
        · rw [sblt_asymm (hp i t hi ht h4)]
          simp
        · subst h4
          rw [sblt_irrefl]
          simp
      omega
  refine ⟨hc, ?_⟩
  unfold fndB
  rw [hc, List.getElem?_eq_getElem hi]
  simp only [beq_iff_eq]
  exact cmpK_self.mpr hk
theorem find_none {l : List S51} {k : ByteArray} (hn : ∀ i (hi : i < l.length), l[i].f0 ≠ k) : fndB (cmpK k) l = false := by
  unfold fndB
  cases hx : l[cntN (cmpK k) l]? with
  | none => rfl
  | some x =>
    obtain ⟨hi, rfl⟩ := List.getElem?_eq_some_iff.mp hx
    simp only [beq_eq_false_iff_ne, ne_eq]
    rw [cmpK_self]
    exact hn _ hi
theorem find_f {l : List S51} {k : ByteArray} (h : RiseP l) (hl : l.length ≤ 1048576) : impl_find.f l k = some (((cntN (cmpK k) l : Nat) : Int), fndB (cmpK k) l) := by
  unfold impl_find.f bs_find.f
  rw [if_pos h, if_pos (by omega)]
  rfl
def isKey (k : ByteArray) (x : S51) : Bool := x.f0.toList == k.toList
theorem l01At_ev (l : List S51) (n : ByteArray) (hlen : l.length ≤ 1048576) : Ev (fun k => spec_l01At.f k l n) (idxI (isKey n) l) := by
  refine ev_idx_loop (L := fun k i => spec_l01At.l0 k l n i) (q := isKey n) ?_ ?_ ?_
  · intro i hi hq k
    have hq2 : ¬ (l[i].f0.toList = n.toList) := by simpa [isKey] using hq
    have c1 : (i : Int) < (l.length : Int) := by omega
    simp only [spec_l01At.l0, rdEntry hi, c1, hq2, if_true, if_false, Int.natCast_nonneg, wrap_i (show i < 4611686018427387904 by omega)]
  · intro i hi hq k
    have hq2 : l[i].f0.toList = n.toList := by simpa [isKey] using hq
    have c1 : (i : Int) < (l.length : Int) := by omega
    simp only [spec_l01At.l0, rdEntry hi, c1, hq2, if_true, Int.natCast_nonneg]
  · intro k
    simp only [spec_l01At.l0]
    rw [if_neg (by omega)]
theorem key_cases {l : List S51} (h : RiseP l) (hl : l.length ≤ 1048576) (n : ByteArray) :
    (idxI (isKey n) l = -1 ∧ impl_find.f l n = some (((cntN (cmpK n) l : Nat) : Int), false) ∧ ∀ i (hi : i < l.length), l[i].f0 ≠ n) ∨
    ∃ (i : Nat) (hi : i < l.length), idxI (isKey n) l = (i : Int) ∧ impl_find.f l n = some ((i : Int), true) ∧ l[i].f0 = n := by
  unfold idxI
  cases hx : l.findIdx? (isKey n) with
  | none =>
    have h0 := List.findIdx?_eq_none_iff.mp hx
    have hn : ∀ i (hi : i < l.length), l[i].f0 ≠ n := by
      rintro i hi rfl
      have := h0 _ (List.getElem_mem hi)
      simp [isKey] at this
    exact .inl ⟨rfl, by rw [find_f h hl, find_none hn], hn⟩
  | some i =>
    obtain ⟨hi, hp, _⟩ := List.findIdx?_eq_some_iff_getElem.mp hx
    have hk : l[i].f0 = n := toList_inj (by simpa [isKey] using hp)
    obtain ⟨h1, h2⟩ := find_some h hi hk
    exact .inr ⟨i, hi, rfl, by rw [find_f h hl, h1, h2], hk⟩
def mapBig (l : List S51) (n : ByteArray) : Prop := (l.length : Int) > 4096 ∨ (n.size : Int) > 65536
theorem keyCode_big {l : List S51} {n : ByteArray} (h : mapBig l n) : Ev (fun k => impl_keyCode.f k l n) 2 := by
  refine Ev.at_ (c := 1) (fun k => ?_)
  unfold impl_keyCode.f impl_Entry_100.f impl_isText.f
  simp only [Option.bind_some]
  by_cases h1 : (l.length : Int) ≤ 4096
  · have h2 : ¬ (n.size : Int) ≤ 65536 := by rcases h with h | h <;> omega
    simp only [h1, h2, decide_true, decide_false, if_true, impl_keyCode.j0, Bool.not_false]
  · simp only [h1, decide_false, Bool.false_eq_true, if_false, impl_keyCode.j0, if_true]
theorem keyCode_small {l : List S51} {n : ByteArray} (h : ¬ mapBig l n) : Ev (fun k => impl_keyCode.f k l n) (if (mapB l && nameB n) = true then 0 else 1) := by
  have h1 : (l.length : Int) ≤ 4096 := by unfold mapBig at h; omega
  have h2 : (n.size : Int) ≤ 65536 := by unfold mapBig at h; omega
  refine Ev.succ ?_
  unfold impl_keyCode.f impl_Entry_100.f impl_isText.f
  simp only [Option.bind_some, h1, h2, decide_true, if_true, impl_keyCode.j0, Bool.not_true, Bool.false_eq_true, if_false, impl_NameOK.f]
  refine Ev.bind (mapOK_ev l (by omega)) ?_
  cases mapB l
  · simp only [Bool.false_eq_true, if_false, Bool.false_and]; exact Ev.now _
  · cases nameB n
    · simp only [Bool.false_eq_true, if_true, if_false, Bool.and_false]; exact Ev.now _
    · simp only [if_true, Bool.and_true]; exact Ev.now _
theorem l01Ask_small {l : List S51} {n : ByteArray} (h : ¬ mapBig l n) : Ev (fun k => spec_l01Ask.f k l n) (if (mapB l && nameB n) = true then 0 else 1) := by
  have h1 : ¬ (l.length : Int) > 4096 := by unfold mapBig at h; omega
  have h2 : ¬ (n.size : Int) > 65536 := by unfold mapBig at h; omega
  refine Ev.succ ?_
  unfold spec_l01Ask.f
  simp only [h1, h2, if_false, decide_false, spec_l01Ask.j0, Bool.false_eq_true, spec_l01OK.f, Option.bind_some]
  cases mapB l
  · simp only [Bool.false_eq_true, if_false, Bool.false_and]; exact Ev.now _
  · simp only [if_true]
    refine Ev.bind (l00Word_ev n) ?_
    cases nameB n
    · simp only [Bool.false_eq_true, if_false, Bool.and_false]; exact Ev.now _
    · simp only [if_true, Bool.and_true]; exact Ev.now _
end Go.Proofs.Ytcpljigliklgcaa.Q
end

section
namespace Go.Proofs.Ytcpljigliklgcaa.Q
open Go.RowKit Go.Proofs.YtcpljigliklgcaaW.PrintWords Go.Proofs.YtcpljigliklgcaaW.PrintLast
set_option linter.unusedVariables false
set_option linter.unusedSimpArgs false
theorem cntN_le (c : S51 → Int) (l : List S51) : cntN c l ≤ l.length := List.countP_le_length
theorem cnt_at {l : List S51} (h : RiseP l) (k : ByteArray) : ∀ t (ht : t < l.length), (t < cntN (cmpK k) l ↔ sblt l[t].f0 k = true) := by
  have hp := List.pairwise_iff_getElem.mp h
  -- the first place that is not less
  have key : ∀ d i, i + d = l.length → (∀ t (ht : t < l.length), t < i → sblt l[t].f0 k = true) → ∃ c, c ≤ l.length ∧ (∀ t (ht : t < l.length), t < c → sblt l[t].f0 k = true) ∧ (∀ t (ht : t < l.length), c ≤ t → sblt l[t].f0 k = false) := by
    intro d
    induction d with
    | zero => intro i hi hlo; exact ⟨i, by omega, hlo, fun t ht h2 => by omega⟩
    | succ d ih =>
      intro i hi hlo
      have hl : i < l.length := by omega
      cases hb : sblt l[i].f0 k with
      | true =>
        refine ih (i + 1) (by omega) (fun t ht h2 => ?_)
        rcases Nat.lt_or_eq_of_le (Nat.le_of_lt_succ h2) with h3 | h3
        · exact hlo t ht h3
        · subst h3; exact hb
      | false =>
        refine ⟨i, by omega, hlo, fun t ht h2 => ?_⟩
        rcases Nat.lt_or_eq_of_le h2 with h3 | h3
        · cases hb2 : sblt l[t].f0 k with
          | false => rfl
          | true =>
            have := sblt_trans (hp i t hl ht h3) hb2
            rw [hb] at this
            cases this
        · subst h3; exact hb
  obtain ⟨c, hc, h1, h2⟩ := key l.length 0 (by omega) (fun t ht h2 => absurd h2 (Nat.not_lt_zero _))
  have e : cntN (cmpK k) l = c := by
    refine cntN_is l c hc (fun t ht h3 => (cmpK_lt _ _).mpr (h1 t ht h3)) (fun t ht h3 => ?_)
    have h4 : ¬ cmpK k l[t] < 0 := by
      rw [cmpK_lt, h2 t ht h3]
      simp
    omega
  intro t ht
  rw [e]
  constructor
  · exact h1 t ht
  · intro h3
    rcases Nat.lt_or_ge t c with h4 | h4
    · exact h4
    · rw [h2 t ht h4] at h3
      cases h3
theorem fnd_at {l : List S51} (h : RiseP l) (k : ByteArray) : fndB (cmpK k) l = true ↔ ∃ hc : cntN (cmpK k) l < l.length, (l[cntN (cmpK k) l]'hc).f0 = k := by
  unfold fndB
  constructor
  · intro h1
    cases hx : l[cntN (cmpK k) l]? with
    | none => rw [hx] at h1; cases h1
    | some x =>
      rw [hx] at h1
      obtain ⟨hi, rfl⟩ := List.getElem?_eq_some_iff.mp hx
      exact ⟨hi, cmpK_self.mp (by simpa using h1)⟩
  · rintro ⟨hc, e⟩
    rw [List.getElem?_eq_getElem hc]
    simp only [beq_iff_eq]
    exact cmpK_self.mpr e
def behK (k : ByteArray) (l : List S51) : Nat := cntN (cmpK k) l + if fndB (cmpK k) l = true then 1 else 0
theorem behK_le {l : List S51} (h : RiseP l) (k : ByteArray) : behK k l ≤ l.length := by
  unfold behK
  by_cases hf : fndB (cmpK k) l = true
  · obtain ⟨hc, _⟩ := (fnd_at h k).mp hf
    rw [if_pos hf]
    omega
  · rw [if_neg hf]
    have := cntN_le (cmpK k) l
    omega
theorem beh_at {l : List S51} (h : RiseP l) (k : ByteArray) : ∀ t (ht : t < l.length), behK k l ≤ t → sblt k l[t].f0 = true := by
  intro t ht hb
  have hp := List.pairwise_iff_getElem.mp h
  unfold behK at hb
  by_cases hf : fndB (cmpK k) l = true
  · obtain ⟨hc, e⟩ := (fnd_at h k).mp hf
    rw [if_pos hf] at hb
    rw [← e]
    exact hp _ t hc ht (by omega)
  · rw [if_neg hf] at hb
    have h1 : sblt l[t].f0 k = false := by
      cases h2 : sblt l[t].f0 k with
      | false => rfl
      | true => have := (cnt_at h k t ht).mpr h2; omega
    cases h3 : sblt k l[t].f0 with
    | true => rfl
    | false =>
      exfalso
      have e := sblt_tri h1 h3
      apply hf
      rw [fnd_at h k]
      have hc : cntN (cmpK k) l = t := by
        rcases Nat.lt_or_ge (cntN (cmpK k) l) t with h4 | h4
        · have h5 := hp _ t (by omega) ht h4
          rw [e] at h5
          have := (cnt_at h k _ (by omega)).mpr h5
          omega
        · omega
      exact ⟨by omega, by simp only [hc]; exact e⟩
def putL (l : List S51) (k : ByteArray) (v : Int) : List S51 := l.take (cntN (cmpK k) l) ++ ⟨k, v⟩ :: l.drop (behK k l)
def remL (l : List S51) (k : ByteArray) : List S51 := l.take (cntN (cmpK k) l) ++ l.drop (behK k l)
theorem remL_rise {l : List S51} (h : RiseP l) (k : ByteArray) : RiseP (remL l k) := by
  unfold remL RiseP
  rw [List.pairwise_append]
  refine ⟨h.sublist (List.take_sublist _ _), h.sublist (List.drop_sublist _ _), fun a ha b hb => ?_⟩
  obtain ⟨i, hi, rfl⟩ := List.mem_take_iff_getElem.mp ha
  obtain ⟨j, hj, rfl⟩ := List.mem_drop_iff_getElem.mp hb
  have h1 := (cnt_at h k i (by omega)).mp (by omega)
  have h2 := beh_at h k (behK k l + j) (by omega) (by omega)
  exact sblt_trans h1 h2
theorem putL_rise {l : List S51} (h : RiseP l) (k : ByteArray) (v : Int) : RiseP (putL l k v) := by
  unfold putL RiseP
  rw [List.pairwise_append, List.pairwise_cons]
  refine ⟨h.sublist (List.take_sublist _ _), ⟨fun b hb => ?_, h.sublist (List.drop_sublist _ _)⟩, fun a ha b hb => ?_⟩
  · obtain ⟨j, hj, rfl⟩ := List.mem_drop_iff_getElem.mp hb
    exact beh_at h k (behK k l + j) (by omega) (by omega)
  · obtain ⟨i, hi, rfl⟩ := List.mem_take_iff_getElem.mp ha
    have h1 := (cnt_at h k i (by omega)).mp (by omega)
    rcases List.mem_cons.mp hb with rfl | hb
    · exact h1
    · obtain ⟨j, hj, rfl⟩ := List.mem_drop_iff_getElem.mp hb
      exact sblt_trans h1 (beh_at h k (behK k l + j) (by omega) (by omega))
theorem putL_len (l : List S51) (k : ByteArray) (v : Int) : (putL l k v).length ≤ l.length + 1 := by
  unfold putL
  have h1 := cntN_le (cmpK k) l
  have h2 : cntN (cmpK k) l ≤ behK k l := by unfold behK; omega
  rw [List.length_append, List.length_take, List.length_cons, List.length_drop]
  omega
theorem remL_len (l : List S51) (k : ByteArray) : (remL l k).length ≤ l.length := by
  unfold remL
  have h1 := cntN_le (cmpK k) l
  have h2 : cntN (cmpK k) l ≤ behK k l := by unfold behK; omega
  rw [List.length_append, List.length_take, List.length_drop]
  omega
end Go.Proofs.Ytcpljigliklgcaa.Q
end

section
namespace Go.Proofs.Ytcpljigliklgcaa.Q
open Go.RowKit Go.Proofs.YtcpljigliklgcaaW.PrintWords Go.Proofs.YtcpljigliklgcaaW.PrintLast
set_option linter.unusedVariables false
set_option linter.unusedSimpArgs false
theorem behK_found {l : List S51} {k : ByteArray} (h : fndB (cmpK k) l = true) : behK k l = cntN (cmpK k) l + 1 := by
  unfold behK
  rw [if_pos h]
theorem behK_new {l : List S51} {k : ByteArray} (h : fndB (cmpK k) l = false) : behK k l = cntN (cmpK k) l := by
  unfold behK
  rw [h, if_neg (by simp)]
  omega
def edit1 (l : List S51) (e : S134) : List S51 := if e.f2 = true then remL l e.f0 else putL l e.f0 e.f1
theorem edit1_rise {l : List S51} (h : RiseP l) (e : S134) : RiseP (edit1 l e) := by
  unfold edit1
  split
  · exact remL_rise h _
  · exact putL_rise h _ _
theorem edit1_len (l : List S51) (e : S134) : (edit1 l e).length ≤ l.length + 1 := by
  unfold edit1
  split
  · have := remL_len l e.f0
    omega
  · exact putL_len l _ _
theorem clone_e {l : List S51} (h : l.length ≤ 2000000) : impl_Entry_94.f l = some l := by
  unfold impl_Entry_94.f
  simp only [Option.bind_some, List.length_nil, Nat.zero_add, List.nil_append, (show l.length < 5864062014805 by omega), if_true]
theorem delete_at {l : List S51} {c : Nat} (h : c < l.length) (hl : l.length ≤ 2000000) : impl_Entry_170.f l (c : Int) (wrap64 ((c : Int) + 1)) = some (l.take c ++ l.drop (c + 1)) := by
  have hw : wrap64 ((c : Int) + 1) = (c : Int) + 1 := by unfold wrap64; omega
  unfold impl_Entry_170.f
  rw [hw, if_pos (by omega), if_pos rfl, if_pos (by omega), Int.toNat_natCast]
theorem insert_at {l : List S51} {c : Nat} (x : S51) (h : c ≤ l.length) (hl : l.length ≤ 2000000) : impl_Entry_171.f l (c : Int) [x] = some (l.take c ++ x :: l.drop c) := by
  unfold impl_Entry_171.f
  simp only [Int.natCast_nonneg, if_true, (show ((c : Int) ≤ (l.length : Int)) by omega), (show l.length < 5000000 by omega), Int.toNat_natCast, List.append_assoc, List.cons_append, List.nil_append]
theorem edited_loop (ed : List S134) (hed : ed.length ≤ 1000000) : ∀ (d i : Nat) (l : List S51), i + d = ed.length → RiseP l → l.length + d ≤ 1000000 → Ev (fun k => impl_edited.l0 k l ed (ed.length : Int) (i : Int)) ((ed.drop i).foldl edit1 l) := by
  intro d
  induction d with
  | zero =>
    intro i l hi hr hl
    rw [List.drop_of_length_le (by omega)]
    refine Ev.at_ (c := 1) (fun k => ?_)
    simp only [impl_edited.l0]
    rw [if_neg (by omega)]
    rfl
  | succ d ih =>
    intro i l hi hr hl
    have hil : i < ed.length := by omega
    have c1 : (i : Int) < (ed.length : Int) := by omega
    have e1 : rd_T134 ed (i : Int) = ed[i] := by simp [rd_T134, List.getD_eq_getElem?_getD, List.getElem?_eq_getElem hil]
    have hn := ih (i + 1) (edit1 l ed[i]) (by omega) (edit1_rise hr _) (by have := edit1_len l ed[i]; omega)
    rw [List.drop_eq_getElem_cons hil, List.foldl_cons]
    have hcl := cntN_le (cmpK ed[i].f0) l
    refine Ev.succ ?_
    simp only [impl_edited.l0, c1, Int.natCast_nonneg, if_true, e1, find_f hr (show l.length ≤ 1048576 by omega), Option.bind_some, wrap_i (show i < 4611686018427387904 by omega)]
    cases hf : fndB (cmpK ed[i].f0) l with
    | true =>
      obtain ⟨hc, _⟩ := (fnd_at hr ed[i].f0).mp hf
      have hdl : (l.take (cntN (cmpK ed[i].f0) l) ++ l.drop (cntN (cmpK ed[i].f0) l + 1)).length ≤ 2000000 := by
        rw [List.length_append, List.length_take, List.length_drop]; omega
      have hdc : cntN (cmpK ed[i].f0) l ≤ (l.take (cntN (cmpK ed[i].f0) l) ++ l.drop (cntN (cmpK ed[i].f0) l + 1)).length := by
        rw [List.length_append, List.length_take, List.length_drop]; omega
      have ht : (l.take (cntN (cmpK ed[i].f0) l) ++ l.drop (cntN (cmpK ed[i].f0) l + 1)).take (cntN (cmpK ed[i].f0) l) = l.take (cntN (cmpK ed[i].f0) l) := by
        rw [List.take_append_of_le_length (by rw [List.length_take]; omega), List.take_take, Nat.min_self]
      have hdd : (l.take (cntN (cmpK ed[i].f0) l) ++ l.drop (cntN (cmpK ed[i].f0) l + 1)).drop (cntN (cmpK ed[i].f0) l) = l.drop (cntN (cmpK ed[i].f0) l + 1) := by
        rw [List.drop_append, List.drop_eq_nil_of_le (by rw [List.length_take]; omega), List.length_take, Nat.min_eq_left (by omega), Nat.sub_self, List.drop_zero, List.nil_append]
      simp only [if_true, delete_at hc (show l.length ≤ 2000000 by omega), Option.bind_some, insert_at _ hdc hdl, ht, hdd]
      cases hg : ed[i].f2 with
      | true =>
        have he : edit1 l ed[i] = l.take (cntN (cmpK ed[i].f0) l) ++ l.drop (cntN (cmpK ed[i].f0) l + 1) := by
          unfold edit1 remL
          rw [if_pos hg, behK_found hf]
        simp only [if_true]
        rw [he] at hn
        rw [he]
        exact hn
      | false =>
        have he : edit1 l ed[i] = l.take (cntN (cmpK ed[i].f0) l) ++ ⟨ed[i].f0, ed[i].f1⟩ :: l.drop (cntN (cmpK ed[i].f0) l + 1) := by
          unfold edit1 putL
          rw [if_neg (by simp [hg]), behK_found hf]
        simp only [Bool.false_eq_true, if_false]
        rw [he] at hn
        rw [he]
        exact hn
    | false =>
      simp only [Bool.false_eq_true, if_false, insert_at _ hcl (show l.length ≤ 2000000 by omega), Option.bind_some]
      cases hg : ed[i].f2 with
      | true =>
        have he : edit1 l ed[i] = l := by
          unfold edit1 remL
          rw [if_pos hg, behK_new hf, List.take_append_drop]
        simp only [if_true]
        rw [he] at hn
        rw [he]
        exact hn
      | false =>
        have he : edit1 l ed[i] = l.take (cntN (cmpK ed[i].f0) l) ++ ⟨ed[i].f0, ed[i].f1⟩ :: l.drop (cntN (cmpK ed[i].f0) l) := by
          unfold edit1 putL
          rw [if_neg (by simp [hg]), behK_new hf]
        simp only [Bool.false_eq_true, if_false]
        rw [he] at hn
        rw [he]
        exact hn
theorem edited_ev {l : List S51} (ed : List S134) (hr : RiseP l) (hl : l.length + ed.length ≤ 1000000) : Ev (fun k => impl_edited.f k l ed) (ed.foldl edit1 l) := by
  unfold impl_edited.f
  rw [clone_e (by omega)]
  simp only [Option.bind_some]
  have h := edited_loop ed (by omega) ed.length 0 l (by omega) hr hl
  rw [List.drop_zero] at h
  exact h
theorem take_next {l : List S51} {i : Nat} (h : i < l.length) : l.take (i + 1) = l.take i ++ [l[i]] := by
  rw [List.take_add_one, List.getElem?_eq_getElem h]
  rfl
theorem drop_next {l : List S51} {i b : Nat} (h : i < l.length) (hb : b ≤ i) : (l.take (i + 1)).drop b = (l.take i).drop b ++ [l[i]] := by
  rw [take_next h, List.drop_append_of_le_length (by rw [List.length_take]; omega)]
theorem key_ne {l : List S51} (hr : RiseP l) (k : ByteArray) (i : Nat) (hi : i < l.length) (h : i ≠ cntN (cmpK k) l ∨ fndB (cmpK k) l = false) : ¬ (l[i].f0.toList = k.toList) := by
  intro e
  have e2 := toList_inj e
  obtain ⟨h1, h2⟩ := find_some hr hi e2
  rcases h with h | h
  · exact h h1.symm
  · rw [h2] at h; cases h
def remAcc (l : List S51) (k : ByteArray) (i : Nat) : List S51 := if i ≤ cntN (cmpK k) l then l.take i else l.take (cntN (cmpK k) l) ++ (l.take i).drop (behK k l)
theorem l01Remove_loop {l : List S51} (hr : RiseP l) (k : ByteArray) (hl : l.length ≤ 1000000) : ∀ (d i : Nat), i + d = l.length → Ev (fun q => spec_l01Remove.l0 q l k (remAcc l k i) (i : Int)) (remL l k) := by
  have hcl := cntN_le (cmpK k) l
  have hbl := behK_le hr k
  have hcb : cntN (cmpK k) l ≤ behK k l := by unfold behK; omega
  have hbc : behK k l ≤ cntN (cmpK k) l + 1 := by unfold behK; split <;> omega
  intro d
  induction d with
  | zero =>
    intro i hi
    obtain rfl : i = l.length := by omega
    refine Ev.at_ (c := 1) (fun q => ?_)
    simp only [spec_l01Remove.l0]
    rw [if_neg (by omega)]
    unfold remAcc remL
    by_cases hc : cntN (cmpK k) l < l.length
    · rw [if_neg (by omega), List.take_length]
    · have hce : cntN (cmpK k) l = l.length := by omega
      rw [if_pos (by omega), hce, List.drop_of_length_le (by omega), List.append_nil]
  | succ d ih =>
    intro i hi
    have hil : i < l.length := by omega
    have c1 : (i : Int) < (l.length : Int) := by omega
    have e1 : rd_T51 l (i : Int) = l[i] := rdEntry hil
    have hn := ih (i + 1) (by omega)
    have hlt2 : (remAcc l k i).length < 5864062014805 := by
      unfold remAcc
      split
      · rw [List.length_take]; omega
      · rw [List.length_append, List.length_take, List.length_drop, List.length_take]; omega
    have w := wrap_i (show i < 4611686018427387904 by omega)
    by_cases hat : i = cntN (cmpK k) l ∧ fndB (cmpK k) l = true
    · obtain ⟨hic, hf⟩ := hat
      obtain ⟨hc, hk⟩ := (fnd_at hr k).mp hf
      have hkk : l[i].f0.toList = k.toList := by
        have : l[i].f0 = k := by simpa [hic] using hk
        rw [this]
      have ha : remAcc l k (i + 1) = remAcc l k i := by
        unfold remAcc
        rw [if_neg (by omega), if_pos (by omega), behK_found hf, ← hic, List.drop_of_length_le (by rw [List.length_take]; omega), List.append_nil]
      rw [ha] at hn
      refine Ev.succ ?_
      simp only [spec_l01Remove.l0, c1, if_true, Int.natCast_nonneg, e1, hkk, w]
      exact hn
    · have hne := key_ne hr k i hil (by
        by_cases h1 : i = cntN (cmpK k) l
        · right
          cases hf : fndB (cmpK k) l with
          | false => rfl
          | true => exact absurd ⟨h1, hf⟩ hat
        · exact .inl h1)
      have ha : remAcc l k (i + 1) = remAcc l k i ++ [l[i]] := by
        unfold remAcc
        rcases Nat.lt_trichotomy i (cntN (cmpK k) l) with hic | hic | hic
        · rw [if_pos (by omega), if_pos (by omega), take_next hil]
        · have hf : fndB (cmpK k) l = false := by
            cases hf : fndB (cmpK k) l with
            | false => rfl
            | true => exact absurd ⟨hic, hf⟩ hat
          rw [if_neg (by omega), if_pos (by omega), behK_new hf, ← hic, drop_next hil (Nat.le_refl i), List.drop_of_length_le (by rw [List.length_take]; omega), List.nil_append]
        · rw [if_neg (by omega), if_neg (by omega), drop_next hil (by omega), List.append_assoc]
      rw [ha] at hn
      refine Ev.succ ?_
      simp only [spec_l01Remove.l0, c1, if_true, Int.natCast_nonneg, e1, hne, if_false, hlt2, w]
      exact hn
theorem l01Remove_ev {l : List S51} (hr : RiseP l) (k : ByteArray) (hl : l.length ≤ 1000000) : Ev (fun q => spec_l01Remove.f q l k) (remL l k) := by
  unfold spec_l01Remove.f
  have h := l01Remove_loop hr k hl l.length 0 (by omega)
  have e : remAcc l k 0 = [] := by unfold remAcc; rw [if_pos (Nat.zero_le _), List.take_zero]
  rw [e] at h
  exact h
end Go.Proofs.Ytcpljigliklgcaa.Q
end

section
namespace Go.Proofs.Ytcpljigliklgcaa.Q
open Go.RowKit Go.Proofs.YtcpljigliklgcaaW.PrintWords Go.Proofs.YtcpljigliklgcaaW.PrintLast
set_option linter.unusedVariables false
def cvEntry (x : S125) : S51 := ⟨x.f0, x.f1⟩
theorem toEntryS_ev (l : List S125) (h : l.length ≤ 1048576) : Ev (fun k => laws_toEntryS.f k l) (l.map cvEntry) := by
  refine Ev.congr (f := fun k => laws_toEntryS.l0 k l (List.replicate l.length z51) 0) (fun k => ?_) ?_
  · unfold laws_toEntryS.f
    rw [if_pos (by omega), if_pos (by omega)]
    rfl
  · exact ev_map_loop (L := laws_toEntryS.l0) (g := fun _ x => some (cvEntry x)) (z := z125) (fun _ _ _ _ => rfl) l (by omega) (fun x _ => Ev.now _) _ (by simp)
theorem eqEntry_refl (x : S51) : laws_eqEntry.f x.f0 x.f1 x.f0 x.f1 = some true := by
  unfold laws_eqEntry.f
  simp
theorem eqEntryS_ev (l : List S51) (h : l.length ≤ 1048576) : Ev (fun k => laws_eqEntryS.f k l l) true := by
  refine Ev.congr (f := fun k => laws_eqEntryS.l0 k l l 0) (fun k => ?_) ?_
  · unfold laws_eqEntryS.f
    rw [if_pos rfl]
  · exact ev_refl_loop (L := laws_eqEntryS.l0) (g := fun _ x y => laws_eqEntry.f x.f0 x.f1 y.f0 y.f1) (z := z51) (fun _ _ _ _ => rfl) l (by omega) (fun x _ => Ev.congr (fun _ => eqEntry_refl x) (Ev.now _))
theorem szEntryS_ev (l : List S125) (hl : l.length ≤ 9223372036854775807) (hg : ∀ x, x ∈ l → good125 x) (left : Int) (h0 : 0 ≤ left) (h1 : left ≤ 1048576) :
    ∃ r, Ev (fun k => laws_szEntryS.f k l left) r ∧ r ≤ left ∧ (0 ≤ r → l.length ≤ 1048576) := by
  have hw : wrap64 (left - (l.length : Int)) = left - (l.length : Int) := by unfold wrap64; omega
  by_cases hn : left - (l.length : Int) < 0
  · refine ⟨-1, Ev.congr (f := fun _ => some (-1)) (fun k => ?_) (Ev.now _), by omega, by omega⟩
    unfold laws_szEntryS.f
    rw [hw, if_pos hn]
  · obtain ⟨r, hr, hrl⟩ := ev_sz_loop (L := laws_szEntryS.l0) (g := fun _ x left => laws_szEntry.f x.f0 x.f1 left) (z := z125) (fun _ _ _ _ => rfl) l (by omega) (fun x hx left h0 h1 => by
      have hsz : x.f0.size ≤ 9223372036854775807 := (hg x hx).1
      have hw2 : wrap64 (left - (x.f0.size : Int)) = left - (x.f0.size : Int) := by unfold wrap64; omega
      by_cases h2 : left - (x.f0.size : Int) < 0
      · refine ⟨-1, Ev.congr (f := fun _ => some (-1)) (fun k => ?_) (Ev.now _), by omega⟩
        unfold laws_szEntry.f
        rw [hw2, if_pos h2]
      · refine ⟨left - (x.f0.size : Int), Ev.congr (f := fun _ => some (left - (x.f0.size : Int))) (fun k => ?_) (Ev.now _), by omega⟩
        unfold laws_szEntry.f
        rw [hw2, if_neg h2]) (left - (l.length : Int)) (by omega) (by omega)
    refine ⟨r, Ev.congr (f := fun k => laws_szEntryS.l0 k l (left - (l.length : Int)) 0) (fun k => ?_) hr, by omega, by omega⟩
    unfold laws_szEntryS.f
    rw [hw, if_neg hn]
end Go.Proofs.Ytcpljigliklgcaa.Q
end

section
namespace Go.Proofs.Ytcpljigliklgcaa.Q
open Go.RowKit Go.Proofs.YtcpljigliklgcaaW.PrintWords Go.Proofs.YtcpljigliklgcaaW.PrintLast
set_option linter.unusedVariables false
set_option linter.unusedSimpArgs false
theorem markText_l0 : ∀ (d : Nat) (n : Int) (s : ByteArray), 0 ≤ n → n ≤ 9223372036854775807 → n < 10 ^ d → s.size + d ≤ 1000 → ∃ r, Ev (fun k => laws_markText.l0 k n s) r := by
  intro d
  induction d with
  | zero =>
    intro n s h0 hn9 h1 hs
    have hn : ¬ n > 0 := by simp at h1; omega
    have hz : 1 + s.size ≤ 9223372036854775807 := by omega
    exact ⟨_, Ev.at_ (c := 1) (fun k => by simp only [laws_markText.l0, hn, if_false, hz, if_true]; rfl)⟩
  | succ d ih =>
    intro n s h0 hn9 h1 hs
    by_cases hn : n > 0
    · have e1 : Int.tdiv n 10 = n / 10 := Int.tdiv_eq_ediv_of_nonneg h0
      have h2 : n / 10 < 10 ^ d := by
        rw [Int.pow_succ] at h1
        omega
      have hw : wrap64 (n / 10) = n / 10 := by unfold wrap64; omega
      have hz : (strOfNums [(wrap64 (48 + (Int.tmod n 10))) % 256]).size = 1 := rfl
      have hz2 : 1 + s.size ≤ 9223372036854775807 := by omega
      obtain ⟨r, hr⟩ := ih (n / 10) (strOfNums [(wrap64 (48 + (Int.tmod n 10))) % 256] ++ s) (by omega) (by omega) h2 (by rw [ByteArray.size_append, hz]; omega)
      refine ⟨r, Ev.step (fun k => ?_) hr⟩
      simp only [laws_markText.l0, hn, if_true, Option.bind_some, hz, hz2, e1, hw]
    · have hz : 1 + s.size ≤ 9223372036854775807 := by omega
      exact ⟨_, Ev.at_ (c := 1) (fun k => by simp only [laws_markText.l0, hn, if_false, hz, if_true]; rfl)⟩
theorem markTexts : ∃ mt : Int → ByteArray, ∀ n, 0 ≤ n → n ≤ 1000000000 → Ev (fun k => laws_markText.f k n) (mt n) := by
  have h : ∀ n : Int, ∃ s, 0 ≤ n → n ≤ 1000000000 → Ev (fun k => laws_markText.f k n) s := by
    intro n
    by_cases h0 : 0 ≤ n ∧ n ≤ 1000000000
    · by_cases h1 : n ≤ 0
      · exact ⟨_, fun _ _ => Ev.at_ (c := 0) (fun k => by unfold laws_markText.f; rw [if_pos h1])⟩
      · obtain ⟨s, hs⟩ := markText_l0 10 n (⟨#[]⟩ : ByteArray) h0.1 (by omega) (by omega) (by decide)
        exact ⟨s, fun _ _ => Ev.congr (fun k => by unfold laws_markText.f; rw [if_neg h1]) hs⟩
    · exact ⟨ByteArray.empty, fun a b => absurd ⟨a, b⟩ h0⟩
  exact ⟨fun n => Classical.choose (h n), fun n => Classical.choose_spec (h n)⟩
theorem ev_mark_loop {α : Type} {L : Nat → List α → Int → Int → Option (Int × List α)} {H : Nat → List α → Int → Int → Option Int} {mk : α → Int → α} {c : Int} (hc : 0 ≤ c)
    (stepL : ∀ (l : List α) (m : Int) (i : Nat) (hi : i < l.length), l.length ≤ 1048576 → 0 ≤ m → m ≤ 900000000 → ∀ r, Ev (fun k => L k (l.set i (mk l[i] m)) (m + c) ((i + 1 : Nat) : Int)) r → Ev (fun k => L k l m (i : Int)) r)
    (stepH : ∀ (l : List α) (m : Int) (i : Nat) (hi : i < l.length) (y : α), l[i] = mk y m → l.length ≤ 1048576 → 0 ≤ m → m ≤ 900000000 → ∀ r, Ev (fun k => H k l (m + c) ((i + 1 : Nat) : Int)) r → Ev (fun k => H k l m (i : Int)) r)
    (doneL : ∀ (l : List α) (m : Int) k, L (k + 1) l m (l.length : Int) = some (m, l)) (doneH : ∀ (l : List α) (m : Int) k, H (k + 1) l m (l.length : Int) = some m)
    (l : List α) (m : Int) (hl : l.length ≤ 1048576) (h0 : 0 ≤ m) (hm : m + c * l.length ≤ 900000000) :
    ∃ l', l'.length = l.length ∧ Ev (fun k => L k l m 0) (m + c * l.length, l') ∧ Ev (fun k => H k l' m 0) (m + c * l.length) := by
  have key : ∀ (d i : Nat) (l : List α) (m : Int), i + d = l.length → l.length ≤ 1048576 → 0 ≤ m → m + c * d ≤ 900000000 →
      ∃ l', l'.length = l.length ∧ l'.take i = l.take i ∧ Ev (fun k => L k l m (i : Int)) (m + c * d, l') ∧ Ev (fun k => H k l' m (i : Int)) (m + c * d) := by
    intro d
    induction d with
    | zero =>
      intro i l m hi hl h0 hm
      obtain rfl : i = l.length := by omega
      refine ⟨l, rfl, rfl, ?_, ?_⟩
      · simp only [Int.natCast_zero, Int.mul_zero, Int.add_zero]
        exact Ev.at_ (c := 1) (doneL l m)
      · simp only [Int.natCast_zero, Int.mul_zero, Int.add_zero]
        exact Ev.at_ (c := 1) (doneH l m)
    | succ d ih =>
      intro i l m hi hl h0 hm
      have hil : i < l.length := by omega
      have e : m + c + c * (d : Int) = m + c * ((d + 1 : Nat) : Int) := by
        rw [Int.natCast_add, Int.natCast_one, Int.mul_add, Int.mul_one]
        omega
      have hcd : 0 ≤ c * (d : Int) := Int.mul_nonneg hc (Int.natCast_nonneg d)
      obtain ⟨l', hl', ht, hL, hH⟩ := ih (i + 1) (l.set i (mk l[i] m)) (m + c) (by rw [List.length_set]; omega) (by rw [List.length_set]; omega) (by omega) (by omega)
      rw [List.length_set] at hl'
      rw [e] at hL hH
      have hg : l'[i]'(by omega) = mk l[i] m := by
        have h1 : (l'.take (i + 1))[i]'(by rw [List.length_take]; omega) = ((l.set i (mk l[i] m)).take (i + 1))[i]'(by rw [List.length_take, List.length_set]; omega) := by simp only [ht]
        simpa using h1
      refine ⟨l', hl', ?_, stepL l m i hil hl h0 (by omega) _ hL, stepH l' m i (by omega) l[i] hg (by omega) h0 (by omega) _ hH⟩
      have h2 := congrArg (List.take i) ht
      rw [List.take_take, List.take_take, Nat.min_eq_left (by omega)] at h2
      rw [h2, List.take_set_of_le (Nat.le_refl _)]
  obtain ⟨l', h1, _, h3, h4⟩ := key l.length 0 l m (by omega) hl h0 hm
  exact ⟨l', h1, h3, h4⟩
end Go.Proofs.Ytcpljigliklgcaa.Q
end

section
namespace Go.Proofs.Ytcpljigliklgcaa.Q
open Go.RowKit Go.Proofs.YtcpljigliklgcaaW.PrintWords Go.Proofs.YtcpljigliklgcaaW.PrintLast
set_option linter.unusedVariables false
set_option linter.unusedSimpArgs false
theorem markEntryS_ev (l : List S51) (m : Int) (hl : l.length ≤ 1048576) (h0 : 0 ≤ m) (hm : m + 2 * l.length ≤ 900000000) :
    ∃ l', l'.length = l.length ∧ Ev (fun k => laws_markEntryS.f k l m) (m + 2 * l.length, l') ∧ Ev (fun k => laws_heldEntryS.f k l' m) (m + 2 * l.length) := by
  obtain ⟨mt, hmt⟩ := markTexts
  have rd0 : ∀ (l : List S51) (i : Nat) (h : i < l.length), rd_T51 l (i : Int) = l[i] := fun l i h => by simp [rd_T51, List.getD_eq_getElem?_getD, List.getElem?_eq_getElem h]
  have rd1 : ∀ (l : List S51) (i : Nat) (v : S51) (h : i < l.length), rd_T51 (l.set i v) (i : Int) = v := fun l i v h => by rw [rd0 _ _ (by rw [List.length_set]; exact h)]; simp
  refine ev_mark_loop (L := laws_markEntryS.l0) (H := laws_heldEntryS.l0) (mk := fun x m => ⟨mt (m), m + 1⟩) (c := 2) (by omega) ?_ ?_ ?_ ?_ l m hl h0 hm
  · intro l m i hi hl h0 hm r hr
    have c1 : (i : Int) < (l.length : Int) := by omega
    have w := wrap_i (show i < 4611686018427387904 by omega)
    have w1 : wrap64 (m + 1) = m + 1 := by unfold wrap64; omega
    have w2 : wrap64 (m + 1 + 1) = m + 2 := by unfold wrap64; omega
    refine Ev.succ (g := fun k => laws_markEntryS.l0 k l m (i : Int)) ?_
    simp only [laws_markEntryS.l0, c1, if_true, Int.natCast_nonneg, Option.bind_some, Int.toNat_natCast, rd0 l i hi, rd1 l i _ hi, List.set_set, w, w1, w2]
    refine Ev.bind (hmt (m) (by omega) (by omega)) ?_
    (try simp only [if_true, rd0 l i hi, rd1 l i _ hi, List.set_set, Option.bind_some, w1, w2, bne_self_eq_false, Bool.false_eq_true, if_false])
    exact hr
  · intro l m i hi y hy hl h0 hm r hr
    have c1 : (i : Int) < (l.length : Int) := by omega
    have w := wrap_i (show i < 4611686018427387904 by omega)
    have w1 : wrap64 (m + 1) = m + 1 := by unfold wrap64; omega
    have w2 : wrap64 (m + 1 + 1) = m + 2 := by unfold wrap64; omega
    refine Ev.succ (g := fun k => laws_heldEntryS.l0 k l m (i : Int)) ?_
    simp only [laws_heldEntryS.l0, c1, if_true, Int.natCast_nonneg, rd0 l i hi, hy, w, w1, w2, bne_self_eq_false, Bool.false_eq_true, if_false]
    refine Ev.bind (hmt (m) (by omega) (by omega)) ?_
    (try simp only [if_true, rd0 l i hi, rd1 l i _ hi, List.set_set, Option.bind_some, w1, w2, bne_self_eq_false, Bool.false_eq_true, if_false])
    exact hr
  · intro l m k
    simp only [laws_markEntryS.l0]
    rw [if_neg (by omega)]
  · intro l m k
    simp only [laws_heldEntryS.l0]
    rw [if_neg (by omega)]
end Go.Proofs.Ytcpljigliklgcaa.Q
end

section
namespace Go.Proofs.Ytcpljigliklgcaa.Pure
open Go.RowKit Go.Proofs.Ytcpljigliklgcaa.Q Go.Proofs.YtcpljigliklgcaaW.PrintWords Go.Proofs.YtcpljigliklgcaaW.PrintLast
set_option linter.unusedVariables false
set_option linter.unusedSimpArgs false
theorem remove_both (l : List S51) (n : ByteArray) (hl : l.length ≤ 1048576) : ∃ res code, Ev (fun k => spec_Remove.f k l n) (res, code) ∧ Ev (fun k => impl_Remove.f k l n) (res, code) ∧ res.length ≤ 1048576 := by
  by_cases hb : mapBig l n
  · refine ⟨[], 2, Ev.at_ (c := 1) (fun k => ?_), ?_, by simp⟩
    · unfold spec_Remove.f
      by_cases h1 : (l.length : Int) > 4096
      · simp only [h1, if_true, spec_Remove.j0]
      · have h2 : (n.size : Int) > 65536 := by rcases hb with h | h <;> omega
        simp only [h1, h2, if_false, decide_true, spec_Remove.j0, if_true]
    · unfold impl_Remove.f
      refine Ev.bind (keyCode_big hb) ?_
      exact Ev.now _
  have h1 : ¬ (l.length : Int) > 4096 := by unfold mapBig at hb; omega
  have h2 : ¬ (n.size : Int) > 65536 := by unfold mapBig at hb; omega
  have hs : ∀ r, Ev (fun k => spec_Remove.j0 k l n false) r → Ev (fun k => spec_Remove.f k l n) r := fun r h => Ev.congr (fun k => by unfold spec_Remove.f; simp only [h1, h2, if_false, decide_false]) h
  cases hr : (mapB l && nameB n) with
  | false =>
    refine ⟨[], 1, hs _ (Ev.succ ?_), ?_, by simp⟩
    · simp only [spec_Remove.j0, Bool.false_eq_true, if_false]
      refine Ev.bind (l01Ask_small hb) ?_
      simp only [hr, Bool.false_eq_true, if_false]
      exact Ev.now _
    · unfold impl_Remove.f
      refine Ev.bind (keyCode_small hb) ?_
      simp only [hr, Bool.false_eq_true, if_false]
      exact Ev.now _
  | true =>
    have hm : mapB l = true := by simp only [Bool.and_eq_true] at hr; exact hr.1
    have hri := mapB_rise hm
    have h12 := mapB_len hm
    rcases key_cases hri hl n with ⟨hx, hf, _⟩ | ⟨i, hi, hx, hf, _⟩
    · have n1 : (-1 : Int) < 0 := by decide
      refine ⟨l, 5, hs _ (Ev.succ ?_), ?_, by omega⟩
      · simp only [spec_Remove.j0, Bool.false_eq_true, if_false]
        refine Ev.bind (l01Ask_small hb) ?_
        simp only [hr, if_true]
        refine Ev.bind (hx ▸ l01At_ev l n hl) ?_
        simp only [n1, if_true, Option.bind_some, List.length_nil, Nat.zero_add, List.nil_append, (show l.length < 5864062014805 by omega)]
        exact Ev.now _
      · unfold impl_Remove.f
        refine Ev.bind (keyCode_small hb) ?_
        simp only [hr, if_true, hf, Option.bind_some, Bool.false_eq_true, if_false, clone_e (show l.length ≤ 2000000 by omega)]
        exact Ev.now _
    · have n1 : ¬ (i : Int) < 0 := by omega
      have hS := l01Remove_ev hri n (show l.length ≤ 1000000 by omega)
      have hI := edited_ev [(⟨n, 0, true⟩ : S134)] hri (by rw [List.length_singleton]; omega)
      have he : [(⟨n, 0, true⟩ : S134)].foldl edit1 l = remL l n := by
        rw [List.foldl_cons, List.foldl_nil]
        unfold edit1
        rw [if_pos rfl]
      rw [he] at hI
      have hlen := remL_len l n
      refine ⟨remL l n, 0, hs _ (Ev.succ ?_), ?_, by omega⟩
      · simp only [spec_Remove.j0, Bool.false_eq_true, if_false]
        refine Ev.bind (l01Ask_small hb) ?_
        simp only [hr, if_true]
        refine Ev.bind (hx ▸ l01At_ev l n hl) ?_
        simp only [n1, if_false]
        exact Ev.bind hS (Ev.now _)
      · unfold impl_Remove.f
        refine Ev.bind (keyCode_small hb) ?_
        simp only [hr, if_true, hf, Option.bind_some]
        exact Ev.bind hI (Ev.now _)
theorem FnExactRemove : laws_FnExactRemove.Pure := by
  intro l0 a1 w0 w1
  refine Ev.rounds ?_
  unfold laws_FnExactRemove.f
  by_cases hn1 : (a1.size : Int) > 1048576
  · simp only [hn1, if_true]
    exact Ev.now _
  simp only [hn1, if_false]
  obtain ⟨r, hr, hrl, hrs⟩ := szEntryS_ev l0 w0.1 w0.2 1048576 (by omega) (by omega)
  refine Ev.bind hr ?_
  by_cases hn : r < 0
  · simp only [hn, if_true]
    exact Ev.now _
  simp only [hn, if_false]
  have hl := hrs (by omega)
  have ht := toEntryS_ev l0 hl
  have hl2 : (l0.map cvEntry).length ≤ 1048576 := by simpa using hl
  obtain ⟨res, code, hs, hi, hres⟩ := remove_both (l0.map cvEntry) a1 hl2
  refine Ev.bind ht (Ev.bind hs (Ev.bind ht (Ev.bind hi (Ev.bind (eqEntryS_ev res hres) ?_))))
  simp only [if_true, bne_self_eq_false]
  refine Ev.succ ?_
  simp only [laws_FnExactRemove.j0, Bool.false_eq_true, if_false]
  refine Ev.bind ht (Ev.bind (eqEntryS_ev _ hl2) ?_)
  simp only [if_true]
  obtain ⟨la, _, hmA, _⟩ := markEntryS_ev (l0.map cvEntry) 1 hl2 (by omega) (by omega)
  refine Ev.bind hmA ?_
  have n1 : ¬ (1 + 2 * ((l0.map cvEntry).length : Int) < 0) := by omega
  simp only [n1, if_false]
  refine Ev.bind (eqEntryS_ev res hres) ?_
  simp only [if_true, bne_self_eq_false]
  refine Ev.succ ?_
  simp only [laws_FnExactRemove.j1, Bool.false_eq_true, if_false]
  obtain ⟨lr, _, hmR, hhR⟩ := markEntryS_ev res 1 hres (by omega) (by omega)
  have n2 : ¬ (1 + 2 * (res.length : Int) < 0) := by omega
  refine Ev.bind hmR (Ev.bind hhR ?_)
  simp only [n2, if_false, if_true]
  refine Ev.bind ht (Ev.bind hi (Ev.bind (eqEntryS_ev res hres) ?_))
  simp only [if_true, bne_self_eq_false]
  refine Ev.succ ?_
  simp only [laws_FnExactRemove.j2, Bool.false_eq_true, if_false]
  refine Ev.bind hhR ?_
  simp only [n2, if_false, if_true]
  exact Ev.now _
end Go.Proofs.Ytcpljigliklgcaa.Pure
end
