/- Parts of the proof of the law FnExactAncestorsOf, joined into one text. -/
import Derived.Test.YtekoaaiemmblgaaMFnExactAncestorsOf3
section
namespace Go.Proofs.Ytekoaaiemmblgaa.Q
open Go.RowKit Go.Proofs.YtekoaaiemmblgaaW.PrintWords Go.Proofs.YtekoaaiemmblgaaW.PrintLast Go.Proofs.YtekoaaiemmblgaaW.PrintMore
attribute [local go_sem] max2_int min2_int max_two min_two max_three min_three max_four min_four   -- for this text's walks alone
set_option linter.unusedVariables false
set_option linter.unusedSimpArgs false
attribute [local go_sem] bin_leq bin_gtr bin_geq
theorem ev_map_loop {α β : Type} {L : Nat → List α → List β → Int → Option (List β)} {g : Nat → α → Option β} {cv : α → β} {z : α}
    (step : ∀ k xs acc i, L (k + 1) xs acc i = if i < (xs.length : Int) then (if 0 ≤ i then ((g k (xs.getD i.toNat z)).bind fun y => (if i < (acc.length : Int) then (L k xs (acc.set i.toNat y) (wrap64 (i + 1))) else none)) else none) else some acc)
    (xs : List α) (hlen : xs.length ≤ 4611686018427387904) (hg : ∀ x, x ∈ xs → Ev (fun k => g k x) (cv x)) (acc : List β) (ha : acc.length = xs.length) : Ev (fun k => L k xs acc 0) (xs.map cv) := by
  have key : ∀ d (i : Nat) (acc : List β), i + d = xs.length → acc.length = xs.length → Ev (fun k => L k xs acc (i : Int)) (acc.take i ++ (xs.drop i).map cv) := by
    intro d
    induction d with
    | zero =>
      intro i acc hi ha
      refine Ev.step (f := fun _ => some acc) (fun k => by rw [step, if_neg (by omega)]) ?_
      rw [List.take_of_length_le (by omega), List.drop_eq_nil_of_le (by omega)]
      simpa using Ev.now acc
    | succ d ih =>
      intro i acc hi ha
      have hl : i < xs.length := by omega
      have hw : wrap64 ((i : Int) + 1) = ((i + 1 : Nat) : Int) := by unfold wrap64; omega
      have hx : xs.getD ((i : Int).toNat) z = xs[i] := by simp [List.getD_eq_getElem?_getD, List.getElem?_eq_getElem hl]
      refine Ev.step (f := fun k => (g k xs[i]).bind fun y => L k xs (acc.set i y) ((i + 1 : Nat) : Int)) (fun k => ?_) ?_
      · rw [step, if_pos (by omega), if_pos (by omega), hx, hw]
        congr 1
        funext y
        rw [if_pos (by omega)]
        simp
      · have h2 := ih (i + 1) (acc.set i (cv xs[i])) (by omega) (by simpa using ha)
        have e : (acc.set i (cv xs[i])).take (i + 1) ++ (xs.drop (i + 1)).map cv = acc.take i ++ (xs.drop i).map cv := by
          rw [List.drop_eq_getElem_cons hl, List.map_cons, List.take_succ_eq_append_getElem (by simpa using (show i < acc.length by omega)), List.take_set_of_le (by omega)]
          simp
        rw [e] at h2
        exact Ev.bind (hg _ (List.getElem_mem hl)) h2
  have h := key xs.length 0 acc (by omega) ha
  simpa using h
theorem ev_refl_loop {α : Type} {L : Nat → List α → List α → Int → Option Bool} {g : Nat → α → α → Option Bool} {z : α}
    (step : ∀ k xs ys i, L (k + 1) xs ys i = if i < (xs.length : Int) then (if 0 ≤ i then (if i < (ys.length : Int) then ((g k (xs.getD i.toNat z) (ys.getD i.toNat z)).bind fun t => (if t = true then L k xs ys (wrap64 (i + 1)) else some false)) else none) else none) else some true)
    (xs : List α) (hlen : xs.length ≤ 4611686018427387904) (hg : ∀ x, x ∈ xs → Ev (fun k => g k x x) true) : Ev (fun k => L k xs xs 0) true := by
  have key : ∀ d (i : Nat), i + d = xs.length → Ev (fun k => L k xs xs (i : Int)) true := by
    intro d
    induction d with
    | zero =>
      intro i hi
      exact Ev.step (f := fun _ => some true) (fun k => by rw [step, if_neg (by omega)]) (Ev.now true)
    | succ d ih =>
      intro i hi
      have hl : i < xs.length := by omega
      have hw : wrap64 ((i : Int) + 1) = ((i + 1 : Nat) : Int) := by unfold wrap64; omega
      have hx : xs.getD ((i : Int).toNat) z = xs[i] := by simp [List.getD_eq_getElem?_getD, List.getElem?_eq_getElem hl]
      refine Ev.step (f := fun k => (g k xs[i] xs[i]).bind fun t => if t = true then L k xs xs ((i + 1 : Nat) : Int) else some false) (fun k => ?_) ?_
      · rw [step, if_pos (by omega), if_pos (by omega), if_pos (by omega), hx, hw]
      · refine Ev.bind (hg _ (List.getElem_mem hl)) ?_
        simp only [if_true]
        exact ih (i + 1) (by omega)
  exact key xs.length 0 (by omega)
theorem ev_sz_loop {α : Type} {L : Nat → List α → Int → Int → Option Int} {g : Nat → α → Int → Option Int} {z : α}
    (step : ∀ k xs left i, L (k + 1) xs left i = if i < (xs.length : Int) then (if 0 ≤ i then ((g k (xs.getD i.toNat z) left).bind fun t => (if t < 0 then some (-1) else L k xs t (wrap64 (i + 1)))) else none) else some left)
    (xs : List α) (hlen : xs.length ≤ 4611686018427387904) (hg : ∀ x, x ∈ xs → ∀ left : Int, 0 ≤ left → left ≤ 1048576 → ∃ r, Ev (fun k => g k x left) r ∧ r ≤ left) (left : Int) (h0 : 0 ≤ left) (h1 : left ≤ 1048576) :
    ∃ r, Ev (fun k => L k xs left 0) r ∧ r ≤ left := by
  have key : ∀ d (i : Nat) (left : Int), i + d = xs.length → 0 ≤ left → left ≤ 1048576 → ∃ r, Ev (fun k => L k xs left (i : Int)) r ∧ r ≤ left := by
    intro d
    induction d with
    | zero =>
      intro i left hi h0 h1
      exact ⟨left, Ev.step (f := fun _ => some left) (fun k => by rw [step, if_neg (by omega)]) (Ev.now left), by omega⟩
    | succ d ih =>
      intro i left hi h0 h1
      have hl : i < xs.length := by omega
      have hw : wrap64 ((i : Int) + 1) = ((i + 1 : Nat) : Int) := by unfold wrap64; omega
      have hx : xs.getD ((i : Int).toNat) z = xs[i] := by simp [List.getD_eq_getElem?_getD, List.getElem?_eq_getElem hl]
      obtain ⟨t, ht, htl⟩ := hg _ (List.getElem_mem hl) left h0 h1
      by_cases hn : t < 0
      · refine ⟨-1, Ev.step (f := fun k => (g k xs[i] left).bind fun t => if t < 0 then some (-1) else L k xs t ((i + 1 : Nat) : Int)) (fun k => ?_) (Ev.bind ht ?_), by omega⟩
        · rw [step, if_pos (by omega), if_pos (by omega), hx, hw]
        · simp only [hn, if_true]
          exact Ev.now _
      · obtain ⟨r, hr, hrl⟩ := ih (i + 1) t (by omega) (by omega) (by omega)
        refine ⟨r, Ev.step (f := fun k => (g k xs[i] left).bind fun t => if t < 0 then some (-1) else L k xs t ((i + 1 : Nat) : Int)) (fun k => ?_) (Ev.bind ht ?_), by omega⟩
        · rw [step, if_pos (by omega), if_pos (by omega), hx, hw]
        · simp only [hn, if_false]
          exact hr
  exact key xs.length 0 left (by omega) h0 h1
end Go.Proofs.Ytekoaaiemmblgaa.Q
end

section
namespace Go.Proofs.Ytekoaaiemmblgaa.Q
open Go.RowKit Go.Proofs.YtekoaaiemmblgaaW.PrintWords Go.Proofs.YtekoaaiemmblgaaW.PrintLast
set_option linter.unusedVariables false
theorem Ev.at_ {α : Type} {g : Nat → Option α} {r : α} {c : Nat} (e : ∀ k, g (k + c) = some r) : Ev g r := by
  refine ⟨c, fun n hn => ?_⟩
  obtain ⟨m, rfl⟩ : ∃ m, n = m + c := ⟨n - c, by omega⟩
  exact e m
theorem Ev.succ {α : Type} {g : Nat → Option α} {r : α} (h : Ev (fun k => g (k + 1)) r) : Ev g r := Ev.step (fun _ => rfl) h
theorem ev_all_loop2 {L : Nat → Int → Option Bool} {n : Nat} {p : Nat → Bool} {fin : Bool} (m : Nat)
    (step : ∀ i : Nat, m ≤ i → i < n → (∀ j, j < i → p j = true) → p i = true → ∀ r, Ev (fun k => L k ((i + 1 : Nat) : Int)) r → Ev (fun k => L k (i : Int)) r)
    (stop : ∀ i : Nat, m ≤ i → i < n → (∀ j, j < i → p j = true) → p i = false → Ev (fun k => L k (i : Int)) false)
    (done : Ev (fun k => L k (n : Int)) fin) (hm : m ≤ n) (hpm : ∀ j, j < m → p j = true) : Ev (fun k => L k (m : Int)) (allR p n && fin) := by
  have key : ∀ d (i : Nat), m ≤ i → i + d = n → (∀ j, j < i → p j = true) → Ev (fun k => L k (i : Int)) (allR p n && fin) := by
    intro d
    induction d with
    | zero =>
      intro i _ hi hp
      obtain rfl : i = n := by omega
      rw [allR_true hp, Bool.true_and]
      exact done
    | succ d ih =>
      intro i hmi hi hp
      cases h : p i with
      | true =>
        refine step i hmi (by omega) hp h _ (ih (i + 1) (by omega) (by omega) (fun j hj => ?_))
        rcases Nat.lt_or_eq_of_le (Nat.le_of_lt_succ hj) with h1 | h1
        · exact hp j h1
        · rw [h1]; exact h
      | false =>
        rw [allR_false (by omega) h, Bool.false_and]
        exact stop i hmi (by omega) hp h
  exact key (n - m) m (Nat.le_refl _) (by omega) hpm
theorem ev_same_loop {α : Type} {L : Nat → Int → Option Bool} {xs ys : List α} (hl : xs.length = ys.length)
    (step : ∀ (i : Nat) (h1 : i < xs.length) (h2 : i < ys.length), xs[i] = ys[i] → ∀ k, L (k + 1) (i : Int) = L k ((i + 1 : Nat) : Int))
    (stop : ∀ (i : Nat) (h1 : i < xs.length) (h2 : i < ys.length), xs[i] ≠ ys[i] → ∀ k, L (k + 1) (i : Int) = some false)
    (done : ∀ k, L (k + 1) (xs.length : Int) = some true) : ∃ b, Ev (fun k => L k 0) b ∧ (b = true ↔ xs = ys) := by
  have key : ∀ d (i : Nat), i + d = xs.length → xs.take i = ys.take i → ∃ b, Ev (fun k => L k (i : Int)) b ∧ (b = true ↔ xs = ys) := by
    intro d
    induction d with
    | zero =>
      intro i hi hp
      obtain rfl : i = xs.length := by omega
      refine ⟨true, Ev.at_ (c := 1) done, fun _ => ?_, fun _ => rfl⟩
      rw [List.take_length, hl, List.take_length] at hp
      exact hp
    | succ d ih =>
      intro i hi hp
      have h1 : i < xs.length := by omega
      have h2 : i < ys.length := by omega
      rcases Classical.em (xs[i] = ys[i]) with h | h
      · obtain ⟨b, hb, hb2⟩ := ih (i + 1) (by omega) (by rw [List.take_succ_eq_append_getElem h1, List.take_succ_eq_append_getElem h2, hp, h])
        exact ⟨b, Ev.step (step i h1 h2 h) hb, hb2⟩
      · refine ⟨false, Ev.at_ (c := 1) (stop i h1 h2 h), by simp, fun e => absurd (by subst e; rfl) h⟩
  exact key xs.length 0 (by omega) (by simp)
theorem wrap_i {i : Nat} (h : i < 4611686018427387904) : wrap64 ((i : Int) + 1) = ((i + 1 : Nat) : Int) := by unfold wrap64; omega
theorem wrap_2 {i : Int} (h0 : -4611686018427387904 ≤ i) (h : i < 4611686018427387904) : wrap64 (i + 1) = i + 1 := by unfold wrap64; omega
end Go.Proofs.Ytekoaaiemmblgaa.Q
end

section
namespace Go.Proofs.Ytekoaaiemmblgaa.Q
open Go.RowKit Go.Proofs.YtekoaaiemmblgaaW.PrintWords Go.Proofs.YtekoaaiemmblgaaW.PrintLast
set_option linter.unusedVariables false
set_option linter.unusedSimpArgs false
theorem rdCommit {l : List S78} {i : Nat} (h : i < l.length) : rd_T78 l (i : Int) = l[i] := by
  simp [rd_T78, List.getD_eq_getElem?_getD, List.getElem?_eq_getElem h]
def commitB (n : Nat) (ps : List Int) (m : List S87) : Bool :=
  mapB m && match ps with
  | [] => n == 0
  | [a] => n != 0 && inB a 1 n
  | [a, b] => n != 0 && (inB a 1 n && (inB b 1 n && b != a))
  | _ => false
def storeB (l : List S78) : Bool := inB l.length 1 60 && allR (fun i => commitB i (rd_T78 l (i : Int)).f0 (rd_T78 l (i : Int)).f1) l.length
theorem nat_eq0 (n : Nat) : ((n : Int) == 0) = (n == 0) := by
  cases n with
  | zero => rfl
  | succ n =>
    have h1 : (((n + 1 : Nat) : Int) == 0) = false := by rw [beq_eq_false_iff_ne]; omega
    rw [h1]; rfl
theorem l03Commit_ev (st : List S78) (ps : List Int) (m : List S87) : Ev (fun k => spec_l03Commit.f k st ps m) (commitB st.length ps m) := by
  unfold commitB
  have w0 : wrap64 (0 + 1) = 1 := by unfold wrap64; omega
  have w1 : wrap64 (1 + 1) = 2 := by unfold wrap64; omega
  cases hm : mapB m with
  | false =>
    refine Ev.at_ (c := 1) (fun k => ?_)
    simp only [spec_l03Commit.f, spec_l01OK.f, Option.bind_some, hm, Bool.false_eq_true, if_false, spec_l03Commit.j0, if_true, Bool.false_and]
  | true =>
    match ps with
    | [] =>
      refine Ev.at_ (c := 2) (fun k => ?_)
      simp only [spec_l03Commit.f, spec_l01OK.f, Option.bind_some, hm, if_true, nat_eq0, List.length_nil, spec_l03Commit.j0, spec_l03Commit.l0]
      cases st.length == 0 <;> simp
    | [a] =>
      refine Ev.at_ (c := 4) (fun k => ?_)
      have r0 : rd [a] 0 = a := rfl
      simp only [spec_l03Commit.f, spec_l01OK.f, Option.bind_some, hm, if_true, nat_eq0, List.length_cons, List.length_nil, spec_l03Commit.j0, spec_l03Commit.l0, l01In_is, r0, w0, bne]
      cases st.length == 0 <;> cases inB a 1 st.length <;> simp
    | [a, b] =>
      refine Ev.at_ (c := 5) (fun k => ?_)
      have r0 : rd [a, b] 0 = a := rfl
      have r1 : rd [a, b] 1 = b := rfl
      simp only [spec_l03Commit.f, spec_l01OK.f, Option.bind_some, hm, if_true, nat_eq0, List.length_cons, List.length_nil, spec_l03Commit.j0, spec_l03Commit.l0, l01In_is, r0, r1, w0, w1, bne]
      by_cases hab : b = a
      · cases st.length == 0 <;> cases inB a 1 st.length <;> cases inB b 1 st.length <;> simp [hab]
      · cases st.length == 0 <;> cases inB a 1 st.length <;> cases inB b 1 st.length <;> simp [hab]
    | a :: b :: c :: r =>
      refine Ev.at_ (c := 1) (fun k => ?_)
      have h3 : (((a :: b :: c :: r).length : Nat) : Int) > 2 := by simp only [List.length_cons]; omega
      simp only [spec_l03Commit.f, spec_l01OK.f, Option.bind_some, hm, if_true, h3, spec_l03Commit.j0, Bool.and_false]
theorem isAt_ev (n : Nat) (hn : n ≤ 1048576) (ps : List Int) (m : List S87) (hm : m.length ≤ 1048576) : Ev (fun k => impl_Commit_isAt.f k ps m ((n : Int) + 1)) (commitB n ps m) := by
  unfold impl_Commit_isAt.f commitB
  refine Ev.bind (mapOK_ev m (by omega)) ?_
  have e1 : ((n : Int) + 1 == 1) = (n == 0) := by
    cases n with
    | zero => rfl
    | succ n =>
      have h1 : (((n + 1 : Nat) : Int) + 1 == 1) = false := by rw [beq_eq_false_iff_ne]; omega
      rw [h1]; rfl
  have l1 : (-9223372036854775807 : Int) ≤ (n : Int) + 1 := by omega
  have l2 : (n : Int) + 1 ≤ 9223372036854775807 := by omega
  have l3 : (n : Int) + 1 - 1 = (n : Int) := by omega
  cases mapB m with
  | false => simp only [Bool.false_eq_true, if_false, Bool.false_and]; exact Ev.now _
  | true =>
    simp only [if_true, Bool.true_and, areAllint_isAt.f, l1, l2, l3, e1]
    match ps with
    | [] =>
      refine Ev.at_ (c := 0) (fun k => ?_)
      cases hz : n == 0 <;> simp [hz]
    | [a] =>
      refine Ev.at_ (c := 0) (fun k => ?_)
      cases hz : n == 0 <;> cases h1 : inB a 1 n <;> simp [hz, h1, bne]
    | [a, b] =>
      refine Ev.at_ (c := 0) (fun k => ?_)
      have r0 : rd [a, b] 0 = a := rfl
      have r1 : rd [a, b] 1 = b := rfl
      by_cases hab : a = b
      · subst hab
        cases hz : n == 0 <;> simp [hz, r0, r1, bne]
      · have hba : ¬ b = a := fun h => hab h.symm
        cases hz : n == 0 <;> cases h1 : inB a 1 n <;> cases h2 : inB b 1 n <;> simp [hz, r0, r1, hab, hba, h1, h2, bne]
    | a :: b :: c :: r =>
      have h3 : (((a :: b :: c :: r).length : Nat) : Int) > 2 := by simp only [List.length_cons]; omega
      simp only [h3, if_true]
      exact Ev.now _
theorem l03OK_ev (l : List S78) : Ev (fun k => spec_l03OK.f k l) (storeB l) := by
  unfold spec_l03OK.f storeB
  simp only [l01In_is, Option.bind_some]
  cases hn : inB l.length 1 60 with
  | false => simp only [Bool.false_eq_true, if_false, Bool.false_and]; exact Ev.now _
  | true =>
    have h60 : l.length ≤ 60 := by
      unfold inB at hn
      simp only [Bool.and_eq_true, decide_eq_true_eq] at hn
      omega
    simp only [if_true, Bool.true_and]
    have h := ev_all_loop2 (L := fun k i => spec_l03OK.l0 k l i) (n := l.length) (p := fun i => commitB i (rd_T78 l (i : Int)).f0 (rd_T78 l (i : Int)).f1) (fin := true) 0 (fun i _ hi _ hp r hr => by
      have c1 : (i : Int) < (l.length : Int) := by omega
      have c2 : (i : Int) ≤ (l.length : Int) := by omega
      have hc := l03Commit_ev (l.take i) (rd_T78 l (i : Int)).f0 (rd_T78 l (i : Int)).f1
      rw [List.length_take, Nat.min_eq_left (by omega), hp] at hc
      refine Ev.succ (g := fun k => spec_l03OK.l0 k l (i : Int)) ?_
      simp only [spec_l03OK.l0, c1, c2, Int.natCast_nonneg, if_true, Int.toNat_natCast, wrap_i (show i < 4611686018427387904 by omega)]
      refine Ev.bind hc ?_
      simp only [if_true]
      exact hr) (fun i _ hi _ hp => by
      have c1 : (i : Int) < (l.length : Int) := by omega
      have c2 : (i : Int) ≤ (l.length : Int) := by omega
      have hc := l03Commit_ev (l.take i) (rd_T78 l (i : Int)).f0 (rd_T78 l (i : Int)).f1
      rw [List.length_take, Nat.min_eq_left (by omega), hp] at hc
      refine Ev.succ (g := fun k => spec_l03OK.l0 k l (i : Int)) ?_
      simp only [spec_l03OK.l0, c1, c2, Int.natCast_nonneg, if_true, Int.toNat_natCast]
      refine Ev.bind hc ?_
      simp only [Bool.false_eq_true, if_false]
      exact Ev.now _) (Ev.at_ (c := 1) (fun k => by
      simp only [spec_l03OK.l0]
      rw [if_neg (by omega)])) (Nat.zero_le _) (fun j hj => absurd hj (Nat.not_lt_zero _))
    rw [Bool.and_true] at h
    exact h
theorem areCommits_ev (l : List S78) (hl : l.length ≤ 1048576) (hf : ∀ x, x ∈ l → x.f1.length ≤ 1048576) : Ev (fun k => impl_areCommits.f k l) (allR (fun i => commitB i (rd_T78 l (i : Int)).f0 (rd_T78 l (i : Int)).f1) l.length && decide ((l.length : Int) ≤ 60)) := by
  exact ev_all_loop2 (L := fun k i => impl_areCommits.l0 k l l (l.length : Int) i) (n := l.length) (p := fun i => commitB i (rd_T78 l (i : Int)).f0 (rd_T78 l (i : Int)).f1) 0 (fun i _ hi _ hp r hr => by
    have c1 : (i : Int) < (l.length : Int) := by omega
    have w := wrap_2 (i := (i : Int)) (by omega) (by omega)
    have hc := isAt_ev i (by omega) (rd_T78 l (i : Int)).f0 (rd_T78 l (i : Int)).f1 (by rw [rdCommit hi]; exact hf _ (List.getElem_mem hi))
    rw [hp] at hc
    refine Ev.succ (g := fun k => impl_areCommits.l0 k l l (l.length : Int) (i : Int)) ?_
    simp only [impl_areCommits.l0, c1, Int.natCast_nonneg, if_true, w]
    refine Ev.bind hc ?_
    simp only [if_true]
    exact hr) (fun i _ hi _ hp => by
    have c1 : (i : Int) < (l.length : Int) := by omega
    have w := wrap_2 (i := (i : Int)) (by omega) (by omega)
    have hc := isAt_ev i (by omega) (rd_T78 l (i : Int)).f0 (rd_T78 l (i : Int)).f1 (by rw [rdCommit hi]; exact hf _ (List.getElem_mem hi))
    rw [hp] at hc
    refine Ev.succ (g := fun k => impl_areCommits.l0 k l l (l.length : Int) (i : Int)) ?_
    simp only [impl_areCommits.l0, c1, Int.natCast_nonneg, if_true, w]
    refine Ev.bind hc ?_
    simp only [Bool.false_eq_true, if_false]
    exact Ev.now _) (Ev.at_ (c := 1) (fun k => by
    simp only [impl_areCommits.l0]
    rw [if_neg (by omega)])) (Nat.zero_le _) (fun j hj => absurd hj (Nat.not_lt_zero _))
theorem storeOK_ev (l : List S78) (hl : l.length ≤ 1048576) (hf : ∀ x, x ∈ l → x.f1.length ≤ 1048576) : Ev (fun k => impl_StoreOK.f k l) (storeB l) := by
  unfold impl_StoreOK.f storeB
  by_cases h0 : (l.length : Int) > 0
  · have hi : inB l.length 1 60 = decide ((l.length : Int) ≤ 60) := by
      unfold inB
      rw [decide_eq_true (by omega), Bool.true_and]
    simp only [h0, if_true, impl_Commit_97.f, Option.bind_some]
    by_cases h4 : (l.length : Int) ≤ 4096
    · simp only [h4, decide_true, if_true]
      rw [hi, Bool.and_comm]
      exact Ev.bind (areCommits_ev l hl hf) (Ev.now _)
    · simp only [h4, decide_false, Bool.false_eq_true, if_false]
      rw [hi, decide_eq_false (by omega), Bool.false_and]
      exact Ev.now _
  · have hi : inB l.length 1 60 = false := by
      unfold inB
      rw [decide_eq_false (by omega), Bool.false_and]
    simp only [h0, if_false, hi, Bool.false_and]
    exact Ev.now _
end Go.Proofs.Ytekoaaiemmblgaa.Q
end

section
namespace Go.Proofs.Ytekoaaiemmblgaa.Q
open Go.RowKit Go.Proofs.YtekoaaiemmblgaaW.PrintWords Go.Proofs.YtekoaaiemmblgaaW.PrintLast
set_option linter.unusedVariables false
set_option linter.unusedSimpArgs false
def markP (out : List Bool) (ps : List Int) : List Bool := ps.foldl (fun o p => o.set p.toNat true) out
def reachG (st : List S78) : Nat → List Bool → List Bool
  | 0, out => out
  | i + 1, out => reachG st i (if out.getD (i + 1) false = true then markP out (st.getD i z78).f0 else out)
theorem markP_len (ps : List Int) : ∀ out : List Bool, (markP out ps).length = out.length := by
  induction ps with
  | nil => intro out; rfl
  | cons p ps ih =>
    intro out
    show (markP (out.set p.toNat true) ps).length = _
    rw [ih, List.length_set]
theorem reachG_len (st : List S78) : ∀ (i : Nat) (out : List Bool), (reachG st i out).length = out.length
  | 0, _ => rfl
  | i + 1, out => by
    rw [reachG, reachG_len st i]
    split
    · rw [markP_len]
    · rfl
theorem storeB_at {st : List S78} (h : storeB st = true) : st.length ≤ 60 ∧ 1 ≤ st.length ∧ ∀ i, i < st.length → commitB i (st.getD i z78).f0 (st.getD i z78).f1 = true := by
  unfold storeB inB at h
  rw [Bool.and_eq_true, allR_iff] at h
  simp only [Bool.and_eq_true, decide_eq_true_eq] at h
  exact ⟨by omega, by omega, fun i hi => h.2 i hi⟩
theorem commitB_par {n : Nat} {ps : List Int} {m : List S87} (h : commitB n ps m = true) : (∀ p, p ∈ ps → 1 ≤ p ∧ p ≤ (n : Int)) ∧ (n ≠ 0 → ps ≠ []) ∧ ps.length ≤ 2 := by
  unfold commitB at h
  rw [Bool.and_eq_true] at h
  obtain ⟨_, h⟩ := h
  match ps, h with
  | [], h =>
    refine ⟨fun p hp => by simp at hp, fun hn => ?_, by simp⟩
    simp only [beq_iff_eq] at h
    exact absurd h hn
  | [a], h =>
    simp only [Bool.and_eq_true, inB, decide_eq_true_eq] at h
    refine ⟨fun p hp => ?_, fun _ => by simp, by simp⟩
    obtain rfl : p = a := by simpa using hp
    exact h.2
  | [a, b], h =>
    simp only [Bool.and_eq_true, inB, decide_eq_true_eq] at h
    refine ⟨fun p hp => ?_, fun _ => by simp, by simp⟩
    rcases List.mem_cons.mp hp with rfl | hp
    · exact h.2.1
    · obtain rfl : p = b := by simpa using hp
      exact h.2.2.1
  | _ :: _ :: _ :: _, h => simp at h
theorem rdB {l : List Bool} (i : Nat) : rdOf false l (i : Int) = l.getD i false := by simp [rdOf]
theorem rdC_ (st : List S78) (i : Nat) : rd_T78 st (i : Int) = st.getD i z78 := by simp [rd_T78]
theorem anc_l1 (st : List S78) (i : Nat) (hi : i < 4611686018427387904) (ps : List Int) (hps : ps.length ≤ 1048576) : ∀ (d j : Nat) (out : List Bool) (r : List Bool), j + d = ps.length → (∀ p, p ∈ ps → 0 ≤ p ∧ p < (out.length : Int)) → Ev (fun k => impl_ancestors.l0 k st (markP out (ps.drop j)) (i : Int)) r →
    Ev (fun k => impl_ancestors.l1 k st out ((i + 1 : Nat) : Int) ps (ps.length : Int) (j : Int)) r := by
  have hw1 : wrap64 (((i + 1 : Nat) : Int) - 1) = (i : Int) := by unfold wrap64; omega
  intro d
  induction d with
  | zero =>
    intro j out r hj hp h
    obtain rfl : j = ps.length := by omega
    rw [List.drop_length] at h
    refine Ev.succ (g := fun k => impl_ancestors.l1 k st out ((i + 1 : Nat) : Int) ps (ps.length : Int) (ps.length : Int)) ?_
    have c1 : ¬ ((ps.length : Int) < (ps.length : Int)) := by omega
    simp only [impl_ancestors.l1, c1, if_false, hw1]
    exact h
  | succ d ih =>
    intro j out r hj hp h
    have hl : j < ps.length := by omega
    have c1 : (j : Int) < (ps.length : Int) := by omega
    have er : rd ps (j : Int) = ps[j] := by simp [rd, List.getD_eq_getElem?_getD, List.getElem?_eq_getElem hl]
    have hpj := hp ps[j] (List.getElem_mem hl)
    refine Ev.succ (g := fun k => impl_ancestors.l1 k st out ((i + 1 : Nat) : Int) ps (ps.length : Int) (j : Int)) ?_
    simp only [impl_ancestors.l1, c1, if_true, Int.natCast_nonneg, er, hpj.1, hpj.2, wrap_i (show j < 4611686018427387904 by omega)]
    refine ih (j + 1) _ r (by omega) (fun p hp2 => by rw [List.length_set]; exact hp p hp2) ?_
    rw [List.drop_eq_getElem_cons hl] at h
    exact h
theorem anc_l0 (st : List S78) (hs : storeB st = true) : ∀ (i : Nat) (out : List Bool), i ≤ st.length → out.length = st.length + 1 → Ev (fun k => impl_ancestors.l0 k st out (i : Int)) (reachG st i out)
  | 0, out, _, _ => Ev.at_ (c := 1) (fun k => by
    have c1 : ¬ (((0 : Nat) : Int) > 0) := by omega
    simp only [impl_ancestors.l0, c1, if_false]
    rfl)
  | i + 1, out, hi, ho => by
    obtain ⟨h60, _, hc⟩ := storeB_at hs
    have c1 : ((i + 1 : Nat) : Int) > 0 := by omega
    have c2 : (0 : Int) ≤ ((i + 1 : Nat) : Int) := by omega
    have c3 : ((i + 1 : Nat) : Int) < (out.length : Int) := by omega
    have hw1 : wrap64 (((i + 1 : Nat) : Int) - 1) = (i : Int) := by unfold wrap64; omega
    have c4 : (i : Int) < (st.length : Int) := by omega
    obtain ⟨hpar, _, h2⟩ := commitB_par (hc i (by omega))
    refine Ev.succ (g := fun k => impl_ancestors.l0 k st out ((i + 1 : Nat) : Int)) ?_
    simp only [impl_ancestors.l0, c1, c2, c3, if_true, hw1, Int.natCast_nonneg, c4, rdB, rdC_]
    rw [reachG]
    by_cases hb : out.getD (i + 1) false = true
    · simp only [hb, if_true]
      exact anc_l1 st i (by omega) _ (by omega) _ 0 out _ (Nat.zero_add _) (fun p hp => by have := hpar p hp; omega) (anc_l0 st hs i _ (by omega) (by rw [markP_len]; exact ho))
    · simp only [hb, if_false]
      exact anc_l0 st hs i out (by omega) ho
theorem rch_l1 (st : List S78) (i : Nat) (hi : i < st.length) (h60 : st.length ≤ 60) (hps : (st.getD i z78).f0.length ≤ 1048576) : ∀ (d j : Nat) (out : List Bool) (r : List Bool), j + d = (st.getD i z78).f0.length → (∀ p, p ∈ (st.getD i z78).f0 → 0 ≤ p ∧ p < (out.length : Int)) → Ev (fun k => spec_l03Reach.l0 k st (markP out ((st.getD i z78).f0.drop j)) (i : Int)) r →
    Ev (fun k => spec_l03Reach.l1 k st out ((i + 1 : Nat) : Int) (j : Int)) r := by
  have hw1 : wrap64 (((i + 1 : Nat) : Int) - 1) = (i : Int) := by unfold wrap64; omega
  have c4 : (i : Int) < (st.length : Int) := by omega
  intro d
  induction d with
  | zero =>
    intro j out r hj hp h
    obtain rfl : j = (st.getD i z78).f0.length := by omega
    rw [List.drop_length] at h
    refine Ev.succ (g := fun k => spec_l03Reach.l1 k st out ((i + 1 : Nat) : Int) ((st.getD i z78).f0.length : Int)) ?_
    have c1 : ¬ (((st.getD i z78).f0.length : Int) < ((st.getD i z78).f0.length : Int)) := by omega
    simp only [spec_l03Reach.l1, hw1, rdC_, c1, if_false, Int.natCast_nonneg, c4, if_true]
    exact h
  | succ d ih =>
    intro j out r hj hp h
    have hl : j < (st.getD i z78).f0.length := by omega
    have c1 : (j : Int) < ((st.getD i z78).f0.length : Int) := by omega
    have er : rd (st.getD i z78).f0 (j : Int) = (st.getD i z78).f0[j] := by
      unfold rd
      rw [Int.toNat_natCast, List.getD_eq_getElem?_getD (l := (st.getD i z78).f0), List.getElem?_eq_getElem hl]
      rfl
    have hpj := hp _ (List.getElem_mem hl)
    refine Ev.succ (g := fun k => spec_l03Reach.l1 k st out ((i + 1 : Nat) : Int) (j : Int)) ?_
    simp only [spec_l03Reach.l1, hw1, rdC_, c1, if_true, Int.natCast_nonneg, c4, er, hpj.1, hpj.2, wrap_i (show j < 4611686018427387904 by omega)]
    refine ih (j + 1) _ r (by omega) (fun p hp2 => by rw [List.length_set]; exact hp p hp2) ?_
    rw [List.drop_eq_getElem_cons hl] at h
    exact h
theorem rch_l0 (st : List S78) (hs : storeB st = true) : ∀ (i : Nat) (out : List Bool), i ≤ st.length → out.length = st.length + 1 → Ev (fun k => spec_l03Reach.l0 k st out (i : Int)) (reachG st i out)
  | 0, out, _, _ => Ev.at_ (c := 1) (fun k => by
    have c1 : ¬ (((0 : Nat) : Int) > 0) := by omega
    simp only [spec_l03Reach.l0, c1, if_false]
    rfl)
  | i + 1, out, hi, ho => by
    obtain ⟨h60, _, hc⟩ := storeB_at hs
    have c1 : ((i + 1 : Nat) : Int) > 0 := by omega
    have c2 : (0 : Int) ≤ ((i + 1 : Nat) : Int) := by omega
    have c3 : ((i + 1 : Nat) : Int) < (out.length : Int) := by omega
    have hw1 : wrap64 (((i + 1 : Nat) : Int) - 1) = (i : Int) := by unfold wrap64; omega
    obtain ⟨hpar, _, h2⟩ := commitB_par (hc i (by omega))
    refine Ev.succ (g := fun k => spec_l03Reach.l0 k st out ((i + 1 : Nat) : Int)) ?_
    simp only [spec_l03Reach.l0, c1, c2, c3, if_true, hw1, rdB]
    rw [reachG]
    by_cases hb : out.getD (i + 1) false = true
    · simp only [hb, if_true]
      exact rch_l1 st i (by omega) h60 (by omega) _ 0 out _ (Nat.zero_add _) (fun p hp => by have := hpar p hp; omega) (rch_l0 st hs i _ (by omega) (by rw [markP_len]; exact ho))
    · simp only [hb, if_false]
      exact rch_l0 st hs i out (by omega) ho
def reachL (st : List S78) (id : Nat) : List Bool := reachG st id ((List.replicate (st.length + 1) false).set id true)
theorem reachL_len (st : List S78) (id : Nat) : (reachL st id).length = st.length + 1 := by
  unfold reachL
  rw [reachG_len, List.length_set, List.length_replicate]
theorem ancestors_ev (st : List S78) (hs : storeB st = true) (id : Nat) (hid : id ≤ st.length) : Ev (fun k => impl_ancestors.f k st (id : Int)) (reachL st id) := by
  obtain ⟨h60, _, _⟩ := storeB_at hs
  have hw : wrap64 ((st.length : Int) + 1) = ((st.length + 1 : Nat) : Int) := by unfold wrap64; omega
  have c1 : st.length + 1 ≤ 281474976710656 := by omega
  have c2 : (id : Int) < ((st.length + 1 : Nat) : Int) := by omega
  unfold impl_ancestors.f
  simp only [hw, Int.natCast_nonneg, if_true, Int.toNat_natCast, c1, Option.bind_some, List.length_replicate, c2]
  exact anc_l0 st hs id _ hid (by rw [List.length_set, List.length_replicate])
theorem reach_ev (st : List S78) (hs : storeB st = true) (id : Nat) (hid : id ≤ st.length) : Ev (fun k => spec_l03Reach.f k st (id : Int)) (reachL st id) := by
  obtain ⟨h60, _, _⟩ := storeB_at hs
  have hw : wrap64 ((st.length : Int) + 1) = ((st.length + 1 : Nat) : Int) := by unfold wrap64; omega
  have c1 : st.length + 1 ≤ 281474976710656 := by omega
  have c2 : (id : Int) < ((st.length + 1 : Nat) : Int) := by omega
  unfold spec_l03Reach.f
  simp only [hw, Int.natCast_nonneg, if_true, Int.toNat_natCast, c1, Option.bind_some, List.length_replicate, c2]
  exact rch_l0 st hs id _ hid (by rw [List.length_set, List.length_replicate])
theorem getD_set (l : List Bool) (i j : Nat) (h : i < l.length) : (l.set i true).getD j false = (decide (i = j) || l.getD j false) := by
  rw [List.getD_eq_getElem?_getD, List.getD_eq_getElem?_getD, List.getElem?_set]
  by_cases e : i = j
  · subst e
    simp [h]
  · simp [e]
theorem markP_get (ps : List Int) : ∀ (out : List Bool) (j : Nat), (∀ p, p ∈ ps → 0 ≤ p ∧ p < (out.length : Int)) → ((markP out ps).getD j false = true ↔ out.getD j false = true ∨ ∃ p, p ∈ ps ∧ p.toNat = j) := by
  induction ps with
  | nil => intro out j _; simp [markP]
  | cons p ps ih =>
    intro out j hp
    have h1 := hp p List.mem_cons_self
    have e : markP out (p :: ps) = markP (out.set p.toNat true) ps := rfl
    rw [e, ih _ _ (fun q hq => by rw [List.length_set]; exact hp q (List.mem_cons_of_mem _ hq)), getD_set _ _ _ (by omega)]
    simp only [Bool.or_eq_true, decide_eq_true_eq, List.mem_cons]
    constructor
    · rintro ((h | h) | ⟨q, hq, h⟩)
      · exact .inr ⟨p, .inl rfl, h⟩
      · exact .inl h
      · exact .inr ⟨q, .inr hq, h⟩
    · rintro (h | ⟨q, rfl | hq, h⟩)
      · exact .inl (.inr h)
      · exact .inl (.inl h)
      · exact .inr ⟨q, hq, h⟩
theorem reachG_in (st : List S78) (hs : storeB st = true) (n : Nat) : ∀ (i : Nat) (out : List Bool), i ≤ st.length → i ≤ n → out.length = st.length + 1 → (∀ j, out.getD j false = true → 1 ≤ j ∧ j ≤ n) → ∀ j, (reachG st i out).getD j false = true → 1 ≤ j ∧ j ≤ n
  | 0, out, _, _, _, h => h
  | i + 1, out, hi, hin, ho, h => by
    obtain ⟨h60, _, hc⟩ := storeB_at hs
    obtain ⟨hpar, _, _⟩ := commitB_par (hc i (by omega))
    rw [reachG]
    by_cases hb : out.getD (i + 1) false = true
    · rw [if_pos hb]
      refine reachG_in st hs n i _ (by omega) (by omega) (by rw [markP_len]; exact ho) (fun j hj => ?_)
      rw [markP_get _ _ _ (fun p hp => by have := hpar p hp; omega)] at hj
      rcases hj with hj | ⟨p, hp, rfl⟩
      · exact h j hj
      · have := hpar p hp
        omega
    · rw [if_neg hb]
      exact reachG_in st hs n i out (by omega) (by omega) ho h
theorem reachL_in {st : List S78} (hs : storeB st = true) {id : Nat} (h1 : 1 ≤ id) (h2 : id ≤ st.length) {j : Nat} (h : (reachL st id).getD j false = true) : 1 ≤ j ∧ j ≤ id := by
  refine reachG_in st hs id id _ h2 (Nat.le_refl _) (by rw [List.length_set, List.length_replicate]) (fun q hq => ?_) j h
  rw [getD_set _ _ _ (by rw [List.length_replicate]; omega)] at hq
  have e : (List.replicate (st.length + 1) false).getD q false = false := by
    rw [List.getD_eq_getElem?_getD, List.getElem?_replicate]
    split <;> rfl
  rw [e, Bool.or_false, decide_eq_true_eq] at hq
  omega
def askC (st : List S78) (ids : List Int) : Int := if (st.length : Int) > 4096 then 2 else if storeB st = true then (if ids.all (fun x => inB x 1 st.length) = true then 0 else 5) else 1
theorem idCode_ev (st : List S78) (ids : List Int) (hs : st.length ≤ 1048576) (hf : ∀ x, x ∈ st → x.f1.length ≤ 1048576) : Ev (fun k => impl_idCode.f k st ids) (askC st ids) := by
  unfold impl_idCode.f askC impl_Commit_97.f
  by_cases h : (st.length : Int) > 4096
  · have h2 : ¬ (st.length : Int) ≤ 4096 := by omega
    simp only [h, h2, if_true, Option.bind_some, decide_false, Bool.false_eq_true, if_false]
    exact Ev.now _
  have h2 : (st.length : Int) ≤ 4096 := by omega
  simp only [h, h2, if_false, Option.bind_some, decide_true, if_true]
  refine Ev.bind (storeOK_ev st hs hf) ?_
  cases storeB st with
  | false => simp only [Bool.false_eq_true, if_false]; exact Ev.now _
  | true =>
    simp only [if_true, areAllint_idCode.f, Option.bind_some]
    cases ids.all (fun x => inB x 1 st.length) with
    | false => simp only [Bool.false_eq_true, if_false]; exact Ev.now _
    | true => simp only [if_true]; exact Ev.now _
theorem l03Ask_ev (st : List S78) (ids : List Int) (hi : ids.length ≤ 1048576) : Ev (fun k => spec_l03Ask.f k st ids) (askC st ids) := by
  unfold spec_l03Ask.f askC
  by_cases h : (st.length : Int) > 4096
  · simp only [h, if_true]
    exact Ev.now _
  simp only [h, if_false]
  refine Ev.bind (l03OK_ev st) ?_
  cases storeB st with
  | false => simp only [Bool.false_eq_true, if_false]; exact Ev.now _
  | true =>
    simp only [if_true]
    have key : ∀ (d j : Nat), j + d = ids.length → Ev (fun k => spec_l03Ask.l0 k st ids (j : Int)) (if (ids.drop j).all (fun x => inB x 1 st.length) = true then 0 else 5) := by
      intro d
      induction d with
      | zero =>
        intro j hj
        rw [List.drop_eq_nil_of_le (by omega)]
        refine Ev.at_ (c := 1) (fun k => ?_)
        simp only [spec_l03Ask.l0]
        rw [if_neg (by omega)]
        rfl
      | succ d ih =>
        intro j hj
        have hl : j < ids.length := by omega
        have c1 : (j : Int) < (ids.length : Int) := by omega
        have er : rd ids (j : Int) = ids[j] := by simp [rd, List.getD_eq_getElem?_getD, List.getElem?_eq_getElem hl]
        rw [List.drop_eq_getElem_cons hl]
        refine Ev.succ (g := fun k => spec_l03Ask.l0 k st ids (j : Int)) ?_
        simp only [spec_l03Ask.l0, c1, if_true, Int.natCast_nonneg, er, l01In_is, Option.bind_some, List.all_cons]
        by_cases hq : inB ids[j] 1 st.length = true
        · simp only [hq, if_true, Bool.true_and, wrap_i (show j < 4611686018427387904 by omega)]
          exact ih (j + 1) (by omega)
        · rw [Bool.not_eq_true] at hq
          simp only [hq, Bool.false_eq_true, if_false, Bool.false_and]
          exact Ev.now _
    exact key ids.length 0 (by omega)
theorem askC_zero {st : List S78} {ids : List Int} (h : askC st ids = 0) : storeB st = true ∧ ∀ x, x ∈ ids → 1 ≤ x ∧ x ≤ (st.length : Int) := by
  unfold askC at h
  by_cases h1 : (st.length : Int) > 4096
  · rw [if_pos h1] at h
    omega
  rw [if_neg h1] at h
  by_cases h2 : storeB st = true
  · rw [if_pos h2] at h
    by_cases h3 : ids.all (fun x => inB x 1 st.length) = true
    · refine ⟨h2, fun x hx => ?_⟩
      have := List.all_eq_true.mp h3 x hx
      simpa [inB] using this
    · rw [if_neg h3] at h
      omega
  · rw [if_neg h2] at h
    omega
theorem askC_long {st : List S78} {ids : List Int} (h : (st.length : Int) > 4096) : askC st ids = 2 := by
  unfold askC
  rw [if_pos h]
end Go.Proofs.Ytekoaaiemmblgaa.Q
end

section
namespace Go.Proofs.Ytekoaaiemmblgaa.Q
open Go.RowKit Go.Proofs.YtekoaaiemmblgaaW.PrintWords Go.Proofs.YtekoaaiemmblgaaW.PrintLast
set_option linter.unusedVariables false
def cvEntry (x : S84) : S87 := ⟨x.f0, x.f1⟩
theorem toEntryS_ev (l : List S84) (h : l.length ≤ 1048576) : Ev (fun k => laws_toEntryS.f k l) (l.map cvEntry) := by
  refine Ev.congr (f := fun k => laws_toEntryS.l0 k l (List.replicate l.length z87) 0) (fun k => ?_) ?_
  · unfold laws_toEntryS.f
    rw [if_pos (by omega), if_pos (by omega)]
    rfl
  · exact ev_map_loop (L := laws_toEntryS.l0) (g := fun _ x => some (cvEntry x)) (z := z84) (fun _ _ _ _ => rfl) l (by omega) (fun x _ => Ev.now _) _ (by simp)
theorem eqEntry_refl (x : S87) : laws_eqEntry.f x.f0 x.f1 x.f0 x.f1 = some true := by
  unfold laws_eqEntry.f
  simp
theorem eqEntryS_ev (l : List S87) (h : l.length ≤ 1048576) : Ev (fun k => laws_eqEntryS.f k l l) true := by
  refine Ev.congr (f := fun k => laws_eqEntryS.l0 k l l 0) (fun k => ?_) ?_
  · unfold laws_eqEntryS.f
    rw [if_pos rfl]
  · exact ev_refl_loop (L := laws_eqEntryS.l0) (g := fun _ x y => laws_eqEntry.f x.f0 x.f1 y.f0 y.f1) (z := z87) (fun _ _ _ _ => rfl) l (by omega) (fun x _ => Ev.congr (fun _ => eqEntry_refl x) (Ev.now _))
theorem szEntryS_ev (l : List S84) (hl : l.length ≤ 9223372036854775807) (hg : ∀ x, x ∈ l → good84 x) (left : Int) (h0 : 0 ≤ left) (h1 : left ≤ 1048576) :
    ∃ r, Ev (fun k => laws_szEntryS.f k l left) r ∧ r ≤ left ∧ (0 ≤ r → l.length ≤ 1048576) := by
  have hw : wrap64 (left - (l.length : Int)) = left - (l.length : Int) := by unfold wrap64; omega
  by_cases hn : left - (l.length : Int) < 0
  · refine ⟨-1, Ev.congr (f := fun _ => some (-1)) (fun k => ?_) (Ev.now _), by omega, by omega⟩
    unfold laws_szEntryS.f
    rw [hw, if_pos hn]
  · obtain ⟨r, hr, hrl⟩ := ev_sz_loop (L := laws_szEntryS.l0) (g := fun _ x left => laws_szEntry.f x.f0 x.f1 left) (z := z84) (fun _ _ _ _ => rfl) l (by omega) (fun x hx left h0 h1 => by
      have hsz : x.f0.size ≤ 9223372036854775807 := (hg x hx).1
      have hw2 : wrap64 (left - (x.f0.size : Int)) = left - (x.f0.size : Int) := by unfold wrap64; omega
      by_cases h2 : left - (x.f0.size : Int) < 0
      · refine ⟨-1, Ev.congr (f := fun _ => some (-1)) (fun k => ?_) (Ev.now _), by omega⟩
        unfold laws_szEntry.f
        rw [hw2, if_pos h2]
      · refine ⟨left - (x.f0.size : Int), Ev.congr (f := fun _ => some (left - (x.f0.size : Int))) (fun k => ?_) (Ev.now _), by omega⟩
        unfold laws_szEntry.f
        rw [hw2, if_neg h2]) (left - (l.length : Int)) (by omega) (by omega)
    refine ⟨r, Ev.congr (f := fun k => laws_szEntryS.l0 k l (left - (l.length : Int)) 0) (fun k => ?_) hr, by omega, by omega⟩
    unfold laws_szEntryS.f
    rw [hw, if_neg hn]
end Go.Proofs.Ytekoaaiemmblgaa.Q
end

section
namespace Go.Proofs.Ytekoaaiemmblgaa.Q
open Go.RowKit Go.Proofs.YtekoaaiemmblgaaW.PrintWords Go.Proofs.YtekoaaiemmblgaaW.PrintLast
set_option linter.unusedVariables false
set_option linter.unusedSimpArgs false
theorem toIntS_ev (l : List Int) (h : l.length ≤ 1048576) : Ev (fun k => laws_toIntS.f k l) l := by
  refine Ev.congr (f := fun k => laws_toIntS.l0 k l (List.replicate l.length 0) 0) (fun k => ?_) ?_
  · unfold laws_toIntS.f
    rw [if_pos (by omega), if_pos (by omega)]
    rfl
  · have h2 := ev_map_loop (L := laws_toIntS.l0) (g := fun _ x => some x) (cv := fun x => x) (z := (0 : Int)) (fun _ _ _ _ => rfl) l (by omega) (fun x _ => Ev.now _) (List.replicate l.length 0) (by simp)
    simpa using h2
theorem eqIntS_ev (l : List Int) (hl : l.length ≤ 1048576) : Ev (fun k => laws_eqIntS.f k l l) true := by
  obtain ⟨b, hb, h⟩ := ev_same_loop (L := fun k i => laws_eqIntS.l0 k l l i) (xs := l) (ys := l) rfl (fun i h1 h2 e k => by
    have c1 : (i : Int) < (l.length : Int) := by omega
    simp only [laws_eqIntS.l0, c1, Int.natCast_nonneg, if_true, wrap_i (show i < 4611686018427387904 by omega)]) (fun i h1 h2 e k => absurd rfl e) (fun k => by
    simp only [laws_eqIntS.l0]
    rw [if_neg (by omega)])
  obtain rfl : b = true := h.mpr rfl
  exact Ev.congr (f := fun k => laws_eqIntS.l0 k l l 0) (fun k => by unfold laws_eqIntS.f; rw [if_pos rfl]) hb
theorem szIntS_ev (l : List Int) (hl : l.length ≤ 9223372036854775807) (left : Int) (h0 : 0 ≤ left) (h1 : left ≤ 1048576) :
    ∃ r, laws_szIntS.f l left = some r ∧ r ≤ left ∧ (0 ≤ r → l.length ≤ 1048576) := by
  have hw : wrap64 (left - (l.length : Int)) = left - (l.length : Int) := by unfold wrap64; omega
  unfold laws_szIntS.f
  rw [hw]
  by_cases hn : left - (l.length : Int) < 0
  · exact ⟨-1, by rw [if_pos hn], by omega, by omega⟩
  · exact ⟨left - (l.length : Int), by rw [if_neg hn], by omega, by omega⟩
def cvCommit (x : S75) : S78 := ⟨x.f0, x.f1.map cvEntry⟩
def fitC (x : S75) : Prop := x.f0.length ≤ 1048576 ∧ x.f1.length ≤ 1048576
theorem szCommit_ev (x : S75) (g : good75 x) (left : Int) (h0 : 0 ≤ left) (h1 : left ≤ 1048576) : ∃ r, Ev (fun k => laws_szCommit.f k x.f0 x.f1 left) r ∧ r ≤ left ∧ (0 ≤ r → fitC x) := by
  unfold laws_szCommit.f
  obtain ⟨r, hr, hrl, hrs⟩ := szIntS_ev x.f0 g.1.1 left h0 h1
  simp only [hr, Option.bind_some]
  by_cases hn : r < 0
  · exact ⟨-1, by simp only [hn, if_true]; exact Ev.now _, by omega, by omega⟩
  · obtain ⟨r', hr', hrl', hrs'⟩ := szEntryS_ev x.f1 g.2.1 g.2.2 r (by omega) (by omega)
    by_cases hn' : r' < 0
    · exact ⟨-1, by simp only [hn, if_false]; refine Ev.bind hr' ?_; simp only [hn', if_true]; exact Ev.now _, by omega, by omega⟩
    · exact ⟨r', by simp only [hn, if_false]; refine Ev.bind hr' ?_; simp only [hn', if_false]; exact Ev.now _, by omega, fun h => ⟨hrs (by omega), hrs' h⟩⟩
theorem ev_sz_loop2 {α : Type} {L : Nat → List α → Int → Int → Option Int} {g : Nat → α → Int → Option Int} {z : α} {P : α → Prop}
    (step : ∀ k xs left i, L (k + 1) xs left i = if i < (xs.length : Int) then (if 0 ≤ i then ((g k (xs.getD i.toNat z) left).bind fun t => (if t < 0 then some (-1) else L k xs t (wrap64 (i + 1)))) else none) else some left)
    (xs : List α) (hlen : xs.length ≤ 4611686018427387904) (hg : ∀ x, x ∈ xs → ∀ left : Int, 0 ≤ left → left ≤ 1048576 → ∃ r, Ev (fun k => g k x left) r ∧ r ≤ left ∧ (0 ≤ r → P x)) (left : Int) (h0 : 0 ≤ left) (h1 : left ≤ 1048576) :
    ∃ r, Ev (fun k => L k xs left 0) r ∧ r ≤ left ∧ (0 ≤ r → ∀ x, x ∈ xs → P x) := by
  have key : ∀ d (i : Nat) (left : Int), i + d = xs.length → 0 ≤ left → left ≤ 1048576 → ∃ r, Ev (fun k => L k xs left (i : Int)) r ∧ r ≤ left ∧ (0 ≤ r → ∀ x, x ∈ xs.drop i → P x) := by
    intro d
    induction d with
    | zero =>
      intro i left hi h0 h1
      refine ⟨left, Ev.step (f := fun _ => some left) (fun k => by rw [step, if_neg (by omega)]) (Ev.now left), by omega, fun _ x hx => ?_⟩
      rw [List.drop_eq_nil_of_le (by omega)] at hx
      cases hx
    | succ d ih =>
      intro i left hi h0 h1
      have hl : i < xs.length := by omega
      have hw : wrap64 ((i : Int) + 1) = ((i + 1 : Nat) : Int) := by unfold wrap64; omega
      have hx : xs.getD ((i : Int).toNat) z = xs[i] := by simp [List.getD_eq_getElem?_getD, List.getElem?_eq_getElem hl]
      obtain ⟨t, ht, htl, hP⟩ := hg _ (List.getElem_mem hl) left h0 h1
      have hstep : ∀ k, L (k + 1) xs left (i : Int) = (g k xs[i] left).bind fun t => if t < 0 then some (-1) else L k xs t ((i + 1 : Nat) : Int) := fun k => by rw [step, if_pos (by omega), if_pos (by omega), hx, hw]
      by_cases hn : t < 0
      · refine ⟨-1, Ev.step hstep (Ev.bind ht ?_), by omega, by omega⟩
        simp only [hn, if_true]
        exact Ev.now _
      · obtain ⟨r, hr, hrl, hrP⟩ := ih (i + 1) t (by omega) (by omega) (by omega)
        refine ⟨r, Ev.step hstep (Ev.bind ht ?_), by omega, fun h x hx => ?_⟩
        · simp only [hn, if_false]
          exact hr
        · rw [List.drop_eq_getElem_cons hl] at hx
          rcases List.mem_cons.mp hx with rfl | hx
          · exact hP (by omega)
          · exact hrP h x hx
  have h := key xs.length 0 left (by omega) h0 h1
  simpa using h
theorem szCommitS_ev (l : List S75) (hl : l.length ≤ 9223372036854775807) (hg : ∀ x, x ∈ l → good75 x) (left : Int) (h0 : 0 ≤ left) (h1 : left ≤ 1048576) :
    ∃ r, Ev (fun k => laws_szCommitS.f k l left) r ∧ r ≤ left ∧ (0 ≤ r → l.length ≤ 1048576 ∧ ∀ x, x ∈ l → fitC x) := by
  have hw : wrap64 (left - (l.length : Int)) = left - (l.length : Int) := by unfold wrap64; omega
  by_cases hn : left - (l.length : Int) < 0
  · refine ⟨-1, Ev.congr (f := fun _ => some (-1)) (fun k => ?_) (Ev.now _), by omega, by omega⟩
    unfold laws_szCommitS.f
    rw [hw, if_pos hn]
  · obtain ⟨r, hr, hrl, hrP⟩ := ev_sz_loop2 (L := laws_szCommitS.l0) (g := fun k x left => laws_szCommit.f k x.f0 x.f1 left) (z := z75) (P := fitC) (fun _ _ _ _ => rfl) l (by omega) (fun x hx left h0 h1 => szCommit_ev x (hg x hx) left h0 h1) (left - (l.length : Int)) (by omega) (by omega)
    refine ⟨r, Ev.congr (f := fun k => laws_szCommitS.l0 k l (left - (l.length : Int)) 0) (fun k => ?_) hr, by omega, fun h => ⟨by omega, hrP h⟩⟩
    unfold laws_szCommitS.f
    rw [hw, if_neg hn]
theorem toCommit_ev (x : S75) (h : fitC x) : Ev (fun k => laws_toCommit.f k x.f0 x.f1) (x.f0, x.f1.map cvEntry) := by
  unfold laws_toCommit.f
  exact Ev.bind (toIntS_ev _ h.1) (Ev.bind (toEntryS_ev _ h.2) (Ev.now _))
theorem toCommitS_ev (l : List S75) (h : l.length ≤ 1048576) (hf : ∀ x, x ∈ l → fitC x) : Ev (fun k => laws_toCommitS.f k l) (l.map cvCommit) := by
  refine Ev.congr (f := fun k => laws_toCommitS.l0 k l (List.replicate l.length z78) 0) (fun k => ?_) ?_
  · unfold laws_toCommitS.f
    rw [if_pos (by omega), if_pos (by omega)]
    rfl
  · exact ev_map_loop (L := laws_toCommitS.l0) (g := fun k x => (laws_toCommit.f k x.f0 x.f1).bind fun bt => some (⟨bt.1, bt.2⟩ : S78)) (cv := cvCommit) (z := z75) (fun k xs acc i => by
      simp only [laws_toCommitS.l0, Option.bind_assoc, Option.bind_some]
      rfl) l (by omega) (fun x hx => Ev.bind (toCommit_ev x (hf x hx)) (Ev.now _)) _ (by simp)
theorem eqCommitS_ev (l : List S78) (h : l.length ≤ 1048576) (hf : ∀ x, x ∈ l → x.f0.length ≤ 1048576 ∧ x.f1.length ≤ 1048576) : Ev (fun k => laws_eqCommitS.f k l l) true := by
  refine Ev.congr (f := fun k => laws_eqCommitS.l0 k l l 0) (fun k => ?_) ?_
  · unfold laws_eqCommitS.f
    rw [if_pos rfl]
  · exact ev_refl_loop (L := laws_eqCommitS.l0) (g := fun k x y => laws_eqCommit.f k x.f0 x.f1 y.f0 y.f1) (z := z78) (fun _ _ _ _ => rfl) l (by omega) (fun x hx => by
      unfold laws_eqCommit.f
      refine Ev.bind (eqIntS_ev _ (hf x hx).1) ?_
      simp only [if_true]
      refine Ev.bind (eqEntryS_ev _ (hf x hx).2) ?_
      simp only [if_true]
      exact Ev.now _)
theorem fit_cv {l : List S75} (hf : ∀ x, x ∈ l → fitC x) : ∀ x, x ∈ l.map cvCommit → x.f0.length ≤ 1048576 ∧ x.f1.length ≤ 1048576 := by
  intro x hx
  obtain ⟨y, hy, rfl⟩ := List.mem_map.mp hx
  exact ⟨(hf y hy).1, by simpa [cvCommit] using (hf y hy).2⟩
end Go.Proofs.Ytekoaaiemmblgaa.Q
end

section
namespace Go.Proofs.Ytekoaaiemmblgaa.Q
open Go.RowKit Go.Proofs.YtekoaaiemmblgaaW.PrintWords Go.Proofs.YtekoaaiemmblgaaW.PrintLast
set_option linter.unusedVariables false
set_option linter.unusedSimpArgs false
theorem markText_l0 : ∀ (d : Nat) (n : Int) (s : ByteArray), 0 ≤ n → n ≤ 9223372036854775807 → n < 10 ^ d → s.size + d ≤ 1000 → ∃ r, Ev (fun k => laws_markText.l0 k n s) r := by
  intro d
  induction d with
  | zero =>
    intro n s h0 hn9 h1 hs
    have hn : ¬ n > 0 := by simp at h1; omega
    have hz : 1 + s.size ≤ 9223372036854775807 := by omega
    exact ⟨_, Ev.at_ (c := 1) (fun k => by simp only [laws_markText.l0, hn, if_false, hz, if_true]; rfl)⟩
  | succ d ih =>
    intro n s h0 hn9 h1 hs
    by_cases hn : n > 0
    · have e1 : Int.tdiv n 10 = n / 10 := Int.tdiv_eq_ediv_of_nonneg h0
      have h2 : n / 10 < 10 ^ d := by
        rw [Int.pow_succ] at h1
        omega
      have hw : wrap64 (n / 10) = n / 10 := by unfold wrap64; omega
      have hz : (strOfNums [(wrap64 (48 + (Int.tmod n 10))) % 256]).size = 1 := rfl
      have hz2 : 1 + s.size ≤ 9223372036854775807 := by omega
      obtain ⟨r, hr⟩ := ih (n / 10) (strOfNums [(wrap64 (48 + (Int.tmod n 10))) % 256] ++ s) (by omega) (by omega) h2 (by rw [ByteArray.size_append, hz]; omega)
      refine ⟨r, Ev.step (fun k => ?_) hr⟩
      simp only [laws_markText.l0, hn, if_true, Option.bind_some, hz, hz2, e1, hw]
    · have hz : 1 + s.size ≤ 9223372036854775807 := by omega
      exact ⟨_, Ev.at_ (c := 1) (fun k => by simp only [laws_markText.l0, hn, if_false, hz, if_true]; rfl)⟩
theorem markTexts : ∃ mt : Int → ByteArray, ∀ n, 0 ≤ n → n ≤ 1000000000 → Ev (fun k => laws_markText.f k n) (mt n) := by
  have h : ∀ n : Int, ∃ s, 0 ≤ n → n ≤ 1000000000 → Ev (fun k => laws_markText.f k n) s := by
    intro n
    by_cases h0 : 0 ≤ n ∧ n ≤ 1000000000
    · by_cases h1 : n ≤ 0
      · exact ⟨_, fun _ _ => Ev.at_ (c := 0) (fun k => by unfold laws_markText.f; rw [if_pos h1])⟩
      · obtain ⟨s, hs⟩ := markText_l0 10 n (⟨#[]⟩ : ByteArray) h0.1 (by omega) (by omega) (by decide)
        exact ⟨s, fun _ _ => Ev.congr (fun k => by unfold laws_markText.f; rw [if_neg h1]) hs⟩
    · exact ⟨ByteArray.empty, fun a b => absurd ⟨a, b⟩ h0⟩
  exact ⟨fun n => Classical.choose (h n), fun n => Classical.choose_spec (h n)⟩
theorem ev_mark_loop {α : Type} {L : Nat → List α → Int → Int → Option (Int × List α)} {H : Nat → List α → Int → Int → Option Int} {mk : α → Int → α} {c : Int} (hc : 0 ≤ c)
    (stepL : ∀ (l : List α) (m : Int) (i : Nat) (hi : i < l.length), l.length ≤ 1048576 → 0 ≤ m → m ≤ 900000000 → ∀ r, Ev (fun k => L k (l.set i (mk l[i] m)) (m + c) ((i + 1 : Nat) : Int)) r → Ev (fun k => L k l m (i : Int)) r)
    (stepH : ∀ (l : List α) (m : Int) (i : Nat) (hi : i < l.length) (y : α), l[i] = mk y m → l.length ≤ 1048576 → 0 ≤ m → m ≤ 900000000 → ∀ r, Ev (fun k => H k l (m + c) ((i + 1 : Nat) : Int)) r → Ev (fun k => H k l m (i : Int)) r)
    (doneL : ∀ (l : List α) (m : Int) k, L (k + 1) l m (l.length : Int) = some (m, l)) (doneH : ∀ (l : List α) (m : Int) k, H (k + 1) l m (l.length : Int) = some m)
    (l : List α) (m : Int) (hl : l.length ≤ 1048576) (h0 : 0 ≤ m) (hm : m + c * l.length ≤ 900000000) :
    ∃ l', l'.length = l.length ∧ Ev (fun k => L k l m 0) (m + c * l.length, l') ∧ Ev (fun k => H k l' m 0) (m + c * l.length) := by
  have key : ∀ (d i : Nat) (l : List α) (m : Int), i + d = l.length → l.length ≤ 1048576 → 0 ≤ m → m + c * d ≤ 900000000 →
      ∃ l', l'.length = l.length ∧ l'.take i = l.take i ∧ Ev (fun k => L k l m (i : Int)) (m + c * d, l') ∧ Ev (fun k => H k l' m (i : Int)) (m + c * d) := by
    intro d
    induction d with
    | zero =>
      intro i l m hi hl h0 hm
      obtain rfl : i = l.length := by omega
      refine ⟨l, rfl, rfl, ?_, ?_⟩
      · simp only [Int.natCast_zero, Int.mul_zero, Int.add_zero]
        exact Ev.at_ (c := 1) (doneL l m)
      · simp only [Int.natCast_zero, Int.mul_zero, Int.add_zero]
        exact Ev.at_ (c := 1) (doneH l m)
    | succ d ih =>
      intro i l m hi hl h0 hm
      have hil : i < l.length := by omega
      have e : m + c + c * (d : Int) = m + c * ((d + 1 : Nat) : Int) := by
        rw [Int.natCast_add, Int.natCast_one, Int.mul_add, Int.mul_one]
        omega
      have hcd : 0 ≤ c * (d : Int) := Int.mul_nonneg hc (Int.natCast_nonneg d)
      obtain ⟨l', hl', ht, hL, hH⟩ := ih (i + 1) (l.set i (mk l[i] m)) (m + c) (by rw [List.length_set]; omega) (by rw [List.length_set]; omega) (by omega) (by omega)
      rw [List.length_set] at hl'
      rw [e] at hL hH
      have hg : l'[i]'(by omega) = mk l[i] m := by
        have h1 : (l'.take (i + 1))[i]'(by rw [List.length_take]; omega) = ((l.set i (mk l[i] m)).take (i + 1))[i]'(by rw [List.length_take, List.length_set]; omega) := by simp only [ht]
        simpa using h1
      refine ⟨l', hl', ?_, stepL l m i hil hl h0 (by omega) _ hL, stepH l' m i (by omega) l[i] hg (by omega) h0 (by omega) _ hH⟩
      have h2 := congrArg (List.take i) ht
      rw [List.take_take, List.take_take, Nat.min_eq_left (by omega)] at h2
      rw [h2, List.take_set_of_le (Nat.le_refl _)]
  obtain ⟨l', h1, _, h3, h4⟩ := key l.length 0 l m (by omega) hl h0 hm
  exact ⟨l', h1, h3, h4⟩
end Go.Proofs.Ytekoaaiemmblgaa.Q
end

section
namespace Go.Proofs.Ytekoaaiemmblgaa.Q
open Go.RowKit Go.Proofs.YtekoaaiemmblgaaW.PrintWords Go.Proofs.YtekoaaiemmblgaaW.PrintLast
set_option linter.unusedVariables false
set_option linter.unusedSimpArgs false
theorem markIntS_ev (l : List Int) (m : Int) (hl : l.length ≤ 1048576) (h0 : 0 ≤ m) (hm : m + 1 * l.length ≤ 900000000) :
    ∃ l', l'.length = l.length ∧ Ev (fun k => laws_markIntS.f k l m) (m + 1 * l.length, l') ∧ Ev (fun k => laws_heldIntS.f k l' m) (m + 1 * l.length) := by
  have rd0 : ∀ (l : List Int) (i : Nat) (h : i < l.length), rd l (i : Int) = l[i] := fun l i h => by simp [rd, List.getD_eq_getElem?_getD, List.getElem?_eq_getElem h]
  refine ev_mark_loop (L := laws_markIntS.l0) (H := laws_heldIntS.l0) (mk := fun x m => m) (c := 1) (by omega) ?_ ?_ ?_ ?_ l m hl h0 hm
  · intro l m i hi hl h0 hm r hr
    have c1 : (i : Int) < (l.length : Int) := by omega
    have w := wrap_i (show i < 4611686018427387904 by omega)
    have w1 : wrap64 (m + 1) = m + 1 := by unfold wrap64; omega
    refine Ev.succ (g := fun k => laws_markIntS.l0 k l m (i : Int)) ?_
    simp only [laws_markIntS.l0, c1, if_true, Int.natCast_nonneg, Int.toNat_natCast, w, w1]
    exact hr
  · intro l m i hi y hy hl h0 hm r hr
    have c1 : (i : Int) < (l.length : Int) := by omega
    have w := wrap_i (show i < 4611686018427387904 by omega)
    have w1 : wrap64 (m + 1) = m + 1 := by unfold wrap64; omega
    refine Ev.succ (g := fun k => laws_heldIntS.l0 k l m (i : Int)) ?_
    simp only [laws_heldIntS.l0, c1, if_true, Int.natCast_nonneg, rd0 l i hi, hy, w, w1]
    exact hr
  · intro l m k
    simp only [laws_markIntS.l0]
    rw [if_neg (by omega)]
  · intro l m k
    simp only [laws_heldIntS.l0]
    rw [if_neg (by omega)]
end Go.Proofs.Ytekoaaiemmblgaa.Q
end

section
namespace Go.Proofs.Ytekoaaiemmblgaa.Q
open Go.RowKit Go.Proofs.YtekoaaiemmblgaaW.PrintWords Go.Proofs.YtekoaaiemmblgaaW.PrintLast Go.Proofs.YtekoaaiemmblgaaW.PrintMore
attribute [local go_sem] max2_int min2_int max_two min_two max_three min_three max_four min_four   -- for this text's walks alone
set_option linter.unusedVariables false
set_option linter.unusedSimpArgs false
attribute [local go_sem] bin_leq bin_gtr bin_geq
def laws_heldEntryS.l0 : Nat → List (S87) → Int → Int → Option (Int)
  | 0, _, _, _ => none
  | k + 1, x0, x1, x5 => if x5 < (x0.length : Int) then (if 0 ≤ x5 then ((laws_markText.f k x1).bind fun t304 => (if ((rd_T87 x0 x5).f0).toList = t304.toList then (if ((rd_T87 x0 x5).f1) = (wrap64 (x1 + 1)) then (laws_heldEntryS.l0 k x0 (wrap64 ((wrap64 (x1 + 1)) + 1)) (wrap64 (x5 + 1))) else (some (-1))) else (some (-1)))) else (none)) else (some x1)
def laws_heldEntryS.f (k : Nat) (l0 : List (S87)) (a1 : Int) : Option (Int) := laws_heldEntryS.l0 k l0 a1 0
end Go.Proofs.Ytekoaaiemmblgaa.Q
end

section
namespace Go.Proofs.Ytekoaaiemmblgaa.Q
open Go.RowKit Go.Proofs.YtekoaaiemmblgaaW.PrintWords Go.Proofs.YtekoaaiemmblgaaW.PrintLast
set_option linter.unusedVariables false
set_option linter.unusedSimpArgs false
theorem markEntryS_ev (l : List S87) (m : Int) (hl : l.length ≤ 1048576) (h0 : 0 ≤ m) (hm : m + 2 * l.length ≤ 900000000) :
    ∃ l', l'.length = l.length ∧ Ev (fun k => laws_markEntryS.f k l m) (m + 2 * l.length, l') ∧ Ev (fun k => laws_heldEntryS.f k l' m) (m + 2 * l.length) := by
  obtain ⟨mt, hmt⟩ := markTexts
  have rd0 : ∀ (l : List S87) (i : Nat) (h : i < l.length), rd_T87 l (i : Int) = l[i] := fun l i h => by simp [rd_T87, List.getD_eq_getElem?_getD, List.getElem?_eq_getElem h]
  have rd1 : ∀ (l : List S87) (i : Nat) (v : S87) (h : i < l.length), rd_T87 (l.set i v) (i : Int) = v := fun l i v h => by rw [rd0 _ _ (by rw [List.length_set]; exact h)]; simp
  refine ev_mark_loop (L := laws_markEntryS.l0) (H := laws_heldEntryS.l0) (mk := fun x m => ⟨mt (m), m + 1⟩) (c := 2) (by omega) ?_ ?_ ?_ ?_ l m hl h0 hm
  · intro l m i hi hl h0 hm r hr
    have c1 : (i : Int) < (l.length : Int) := by omega
    have w := wrap_i (show i < 4611686018427387904 by omega)
    have w1 : wrap64 (m + 1) = m + 1 := by unfold wrap64; omega
    have w2 : wrap64 (m + 1 + 1) = m + 2 := by unfold wrap64; omega
    refine Ev.succ (g := fun k => laws_markEntryS.l0 k l m (i : Int)) ?_
    simp only [laws_markEntryS.l0, c1, if_true, Int.natCast_nonneg, Option.bind_some, Int.toNat_natCast, rd0 l i hi, rd1 l i _ hi, List.set_set, w, w1, w2]
    refine Ev.bind (hmt (m) (by omega) (by omega)) ?_
    (try simp only [if_true, rd0 l i hi, rd1 l i _ hi, List.set_set, Option.bind_some, w1, w2, bne_self_eq_false, Bool.false_eq_true, if_false])
    exact hr
  · intro l m i hi y hy hl h0 hm r hr
    have c1 : (i : Int) < (l.length : Int) := by omega
    have w := wrap_i (show i < 4611686018427387904 by omega)
    have w1 : wrap64 (m + 1) = m + 1 := by unfold wrap64; omega
    have w2 : wrap64 (m + 1 + 1) = m + 2 := by unfold wrap64; omega
    refine Ev.succ (g := fun k => laws_heldEntryS.l0 k l m (i : Int)) ?_
    simp only [laws_heldEntryS.l0, c1, if_true, Int.natCast_nonneg, rd0 l i hi, hy, w, w1, w2, bne_self_eq_false, Bool.false_eq_true, if_false]
    refine Ev.bind (hmt (m) (by omega) (by omega)) ?_
    (try simp only [if_true, rd0 l i hi, rd1 l i _ hi, List.set_set, Option.bind_some, w1, w2, bne_self_eq_false, Bool.false_eq_true, if_false])
    exact hr
  · intro l m k
    simp only [laws_markEntryS.l0]
    rw [if_neg (by omega)]
  · intro l m k
    simp only [laws_heldEntryS.l0]
    rw [if_neg (by omega)]
end Go.Proofs.Ytekoaaiemmblgaa.Q
end

section
namespace Go.Proofs.Ytekoaaiemmblgaa.Q
open Go.RowKit Go.Proofs.YtekoaaiemmblgaaW.PrintWords Go.Proofs.YtekoaaiemmblgaaW.PrintLast
set_option linter.unusedVariables false
set_option linter.unusedSimpArgs false
def wC (x : S78) : Nat := x.f0.length + 2 * x.f1.length
def wCs (l : List S78) : Nat := (l.map wC).sum
theorem markCommitS_ev : ∀ (l : List S78) (m : Int), (∀ x, x ∈ l → x.f0.length ≤ 1048576 ∧ x.f1.length ≤ 1048576) → 0 ≤ m → m + wCs l ≤ 900000000 → Ev (fun k => laws_markCommitS.f k l m) (m + wCs l)
  | [], m, _, _, _ => by
    have e : m + (wCs [] : Int) = m := by simp [wCs]
    rw [e]
    exact Ev.at_ (c := 0) (fun k => rfl)
  | x :: l, m, hf, h0, hm => by
    have e : wCs (x :: l) = wC x + wCs l := by simp [wCs]
    have hx := hf x List.mem_cons_self
    rw [e] at hm ⊢
    unfold wC at hm
    obtain ⟨l1, _, h1, _⟩ := markIntS_ev x.f0 m hx.1 h0 (by omega)
    obtain ⟨l2, _, h2, _⟩ := markEntryS_ev x.f1 (m + 1 * x.f0.length) hx.2 (by omega) (by omega)
    have ih := markCommitS_ev l (m + 1 * x.f0.length + 2 * x.f1.length) (fun y hy => hf y (List.mem_cons_of_mem _ hy)) (by omega) (by omega)
    have e2 : m + 1 * (x.f0.length : Int) + 2 * (x.f1.length : Int) + (wCs l : Int) = m + ((wC x + wCs l : Nat) : Int) := by unfold wC; omega
    rw [e2] at ih
    exact Ev.bind h1 (Ev.bind h2 ih)
theorem Ev.uniq {α : Type} {g : Nat → Option α} {r s : α} (h : Ev g r) (k : Ev g s) : r = s := by
  obtain ⟨K, h⟩ := h
  obtain ⟨M, k⟩ := k
  have h1 := h (K + M) (by omega)
  rw [k (K + M) (by omega)] at h1
  exact (Option.some.inj h1).symm
theorem szEntryS_w (l : List S84) (hl : l.length ≤ 9223372036854775807) (hg : ∀ x, x ∈ l → good84 x) (left r : Int) (h0 : 0 ≤ left) (h1 : left ≤ 1048576) (h : Ev (fun k => laws_szEntryS.f k l left) r) (hr : 0 ≤ r) : r ≤ left - (l.length : Int) := by
  have hw : wrap64 (left - (l.length : Int)) = left - (l.length : Int) := by unfold wrap64; omega
  by_cases hn : left - (l.length : Int) < 0
  · have h2 : Ev (fun k => laws_szEntryS.f k l left) (-1) := Ev.congr (f := fun _ => some (-1)) (fun k => by unfold laws_szEntryS.f; rw [hw, if_pos hn]) (Ev.now _)
    have := Ev.uniq h h2
    omega
  · obtain ⟨r2, hr2, hrl⟩ := ev_sz_loop (L := laws_szEntryS.l0) (g := fun _ x left => laws_szEntry.f x.f0 x.f1 left) (z := z84) (fun _ _ _ _ => rfl) l (by omega) (fun x hx left h0 h1 => by
      have hsz : x.f0.size ≤ 9223372036854775807 := (hg x hx).1
      have hw2 : wrap64 (left - (x.f0.size : Int)) = left - (x.f0.size : Int) := by unfold wrap64; omega
      by_cases h2 : left - (x.f0.size : Int) < 0
      · refine ⟨-1, Ev.congr (f := fun _ => some (-1)) (fun k => ?_) (Ev.now _), by omega⟩
        unfold laws_szEntry.f
        rw [hw2, if_pos h2]
      · refine ⟨left - (x.f0.size : Int), Ev.congr (f := fun _ => some (left - (x.f0.size : Int))) (fun k => ?_) (Ev.now _), by omega⟩
        unfold laws_szEntry.f
        rw [hw2, if_neg h2]) (left - (l.length : Int)) (by omega) (by omega)
    have h2 : Ev (fun k => laws_szEntryS.f k l left) r2 := Ev.congr (f := fun k => laws_szEntryS.l0 k l (left - (l.length : Int)) 0) (fun k => by unfold laws_szEntryS.f; rw [hw, if_neg hn]) hr2
    have := Ev.uniq h h2
    omega
theorem szCommit_w (x : S75) (g : good75 x) (left r : Int) (h0 : 0 ≤ left) (h1 : left ≤ 1048576) (h : Ev (fun k => laws_szCommit.f k x.f0 x.f1 left) r) (hr : 0 ≤ r) : r ≤ left - (x.f0.length + x.f1.length : Nat) := by
  have hw : wrap64 (left - (x.f0.length : Int)) = left - (x.f0.length : Int) := by
    have := g.1.1
    unfold wrap64; omega
  by_cases hn : left - (x.f0.length : Int) < 0
  · have e : laws_szIntS.f x.f0 left = some (-1) := by unfold laws_szIntS.f; rw [hw, if_pos hn]
    have h2 : Ev (fun k => laws_szCommit.f k x.f0 x.f1 left) (-1) := by
      unfold laws_szCommit.f
      simp only [e, Option.bind_some, show ((-1 : Int) < 0) = True by simp, if_true]
      exact Ev.now _
    have := Ev.uniq h h2
    omega
  · have e : laws_szIntS.f x.f0 left = some (left - (x.f0.length : Int)) := by unfold laws_szIntS.f; rw [hw, if_neg hn]
    obtain ⟨r2, hr2, hrl2, _⟩ := szEntryS_ev x.f1 g.2.1 g.2.2 (left - (x.f0.length : Int)) (by omega) (by omega)
    have h2 : Ev (fun k => laws_szCommit.f k x.f0 x.f1 left) (if r2 < 0 then -1 else r2) := by
      unfold laws_szCommit.f
      simp only [e, Option.bind_some, hn, if_false]
      refine Ev.bind hr2 ?_
      by_cases h3 : r2 < 0
      · simp only [h3, if_true]; exact Ev.now _
      · simp only [h3, if_false]; exact Ev.now _
    have h3 := Ev.uniq h h2
    by_cases h4 : r2 < 0
    · rw [if_pos h4] at h3
      omega
    · rw [if_neg h4] at h3
      have := szEntryS_w x.f1 g.2.1 g.2.2 _ r2 (by omega) (by omega) hr2 (by omega)
      omega
def lC (x : S75) : Nat := x.f0.length + x.f1.length
theorem szCommitS_l0 (xs : List S75) (hlen : xs.length ≤ 4611686018427387904) (hg : ∀ x, x ∈ xs → good75 x) : ∀ (d i : Nat) (left r : Int), i + d = xs.length → 0 ≤ left → left ≤ 1048576 → Ev (fun k => laws_szCommitS.l0 k xs left (i : Int)) r → 0 ≤ r → r ≤ left - (((xs.drop i).map lC).sum : Nat) := by
  intro d
  induction d with
  | zero =>
    intro i left r hi h0 h1 h hr
    have h2 : Ev (fun k => laws_szCommitS.l0 k xs left (i : Int)) left := Ev.at_ (c := 1) (fun k => by simp only [laws_szCommitS.l0]; rw [if_neg (by omega)])
    have := Ev.uniq h h2
    rw [List.drop_eq_nil_of_le (by omega)]
    simp
    omega
  | succ d ih =>
    intro i left r hi h0 h1 h hr
    have hl : i < xs.length := by omega
    have hw : wrap64 ((i : Int) + 1) = ((i + 1 : Nat) : Int) := by unfold wrap64; omega
    have c1 : (i : Int) < (xs.length : Int) := by omega
    have hx : rd_T75 xs (i : Int) = xs[i] := by simp [rd_T75, List.getD_eq_getElem?_getD, List.getElem?_eq_getElem hl]
    obtain ⟨t, ht, htl, _⟩ := szCommit_ev xs[i] (hg _ (List.getElem_mem hl)) left h0 h1
    have step : ∀ q, Ev (fun k => if t < 0 then some (-1) else laws_szCommitS.l0 k xs t ((i + 1 : Nat) : Int)) q → Ev (fun k => laws_szCommitS.l0 k xs left (i : Int)) q := by
      intro q hq
      refine Ev.succ (g := fun k => laws_szCommitS.l0 k xs left (i : Int)) ?_
      simp only [laws_szCommitS.l0, c1, Int.natCast_nonneg, if_true, hx, hw]
      exact Ev.bind ht hq
    by_cases hn : t < 0
    · have h2 := step (-1) (by simp only [hn, if_true]; exact Ev.now _)
      have := Ev.uniq h h2
      omega
    · have h3 := szCommit_w xs[i] (hg _ (List.getElem_mem hl)) left t h0 h1 ht (by omega)
      obtain ⟨q, hq⟩ : ∃ q, Ev (fun k => laws_szCommitS.l0 k xs t ((i + 1 : Nat) : Int)) q := by
        obtain ⟨K, hK⟩ := h
        obtain ⟨M, hM⟩ := ht
        refine ⟨r, K + M, fun n hn2 => ?_⟩
        have h5 := hK (n + 1) (by omega)
        have h6 : laws_szCommit.f n xs[i].f0 xs[i].f1 left = some t := hM n (by omega)
        simp only [laws_szCommitS.l0, c1, Int.natCast_nonneg, if_true, hx, hw] at h5
        rw [h6] at h5
        simp only [Option.bind_some, hn, if_false] at h5
        exact h5
      have h2 := step q (by simp only [hn, if_false]; exact hq)
      obtain rfl := Ev.uniq h h2
      have h4 := ih (i + 1) t r (by omega) (by omega) (by omega) hq hr
      rw [List.drop_eq_getElem_cons hl, List.map_cons, List.sum_cons]
      unfold lC at h4 ⊢
      omega
theorem szCommitS_w (l : List S75) (hl : l.length ≤ 9223372036854775807) (hg : ∀ x, x ∈ l → good75 x) (left r : Int) (h0 : 0 ≤ left) (h1 : left ≤ 1048576) (h : Ev (fun k => laws_szCommitS.f k l left) r) (hr : 0 ≤ r) : (l.map lC).sum ≤ 1048576 := by
  have hw : wrap64 (left - (l.length : Int)) = left - (l.length : Int) := by unfold wrap64; omega
  by_cases hn : left - (l.length : Int) < 0
  · have h2 : Ev (fun k => laws_szCommitS.f k l left) (-1) := Ev.congr (f := fun _ => some (-1)) (fun k => by unfold laws_szCommitS.f; rw [hw, if_pos hn]) (Ev.now _)
    have := Ev.uniq h h2
    omega
  · have h2 : Ev (fun k => laws_szCommitS.l0 k l (left - (l.length : Int)) ((0 : Nat) : Int)) r := Ev.congr (f := fun k => laws_szCommitS.f k l left) (fun k => by unfold laws_szCommitS.f; rw [hw, if_neg hn]; rfl) h
    have h3 := szCommitS_l0 l (by omega) hg l.length 0 (left - (l.length : Int)) r (by omega) (by omega) (by omega) h2 hr
    rw [List.drop_zero] at h3
    omega
theorem wCs_le (l : List S75) : wCs (l.map cvCommit) ≤ 2 * (l.map lC).sum := by
  unfold wCs
  induction l with
  | nil => simp
  | cons x l ih =>
    have e : wC (cvCommit x) ≤ 2 * lC x := by
      unfold wC lC cvCommit
      simp only [List.length_map]
      omega
    simp only [List.map_cons, List.sum_cons] at ih ⊢
    omega
end Go.Proofs.Ytekoaaiemmblgaa.Q
end

section
namespace Go.Proofs.Ytekoaaiemmblgaa.Pure
open Go.RowKit Go.Proofs.Ytekoaaiemmblgaa.Q Go.Proofs.YtekoaaiemmblgaaW.PrintWords Go.Proofs.YtekoaaiemmblgaaW.PrintLast
set_option linter.unusedVariables false
set_option linter.unusedSimpArgs false
def picks (l : List Bool) : Nat → Nat → List Int
  | _, 0 => []
  | i, d + 1 => if l.getD i false = true then (i : Int) :: picks l (i + 1) d else picks l (i + 1) d
theorem picks_len (l : List Bool) : ∀ (d i : Nat), (picks l i d).length ≤ d
  | 0, _ => Nat.zero_le _
  | d + 1, i => by
    rw [picks]
    have := picks_len l d (i + 1)
    split
    · simp; omega
    · omega
theorem picks_none (l : List Bool) : ∀ (d i : Nat), (∀ j, i ≤ j → l.getD j false = false) → picks l i d = []
  | 0, _, _ => rfl
  | d + 1, i, h => by
    rw [picks, h i (Nat.le_refl _), if_neg (by decide)]
    exact picks_none l d (i + 1) (fun j hj => h j (by omega))
theorem picks_stop (l : List Bool) (n : Nat) (h : ∀ j, n ≤ j → l.getD j false = false) : ∀ (d e i : Nat), i + d = n → picks l i (d + e) = picks l i d
  | 0, e, i, hi => by
    rw [Nat.zero_add, picks_none l e i (fun j hj => h j (by omega))]
    rfl
  | d + 1, e, i, hi => by
    have e1 : d + 1 + e = (d + e) + 1 := by omega
    rw [e1, picks, picks, picks_stop l n h d e (i + 1) (by omega)]
theorem impl_picks (l : List Bool) (hl : l.length ≤ 1000) : ∀ (d i : Nat) (acc : List Int), i + d = l.length → acc.length ≤ i → Ev (fun k => impl_AncestorsOf.l0 k acc l (l.length : Int) (i : Int)) (acc ++ picks l i d, 0)
  | 0, i, acc, hi, ha => Ev.at_ (c := 1) (fun k => by
    have c1 : ¬ ((i : Int) < (l.length : Int)) := by omega
    simp only [impl_AncestorsOf.l0, c1, if_false, picks, List.append_nil])
  | d + 1, i, acc, hi, ha => by
    have c1 : (i : Int) < (l.length : Int) := by omega
    have c2 : acc.length < 17592186044416 := by omega
    have w := wrap_i (show i < 4611686018427387904 by omega)
    refine Ev.succ (g := fun k => impl_AncestorsOf.l0 k acc l (l.length : Int) (i : Int)) ?_
    rw [picks]
    by_cases hb : l.getD i false = true
    · simp only [impl_AncestorsOf.l0, c1, c2, if_true, Int.natCast_nonneg, rdB, hb, w]
      have h := impl_picks l hl d (i + 1) (acc ++ [(i : Int)]) (by omega) (by simp; omega)
      rw [List.append_assoc, List.singleton_append] at h
      exact h
    · simp only [impl_AncestorsOf.l0, c1, c2, if_true, Int.natCast_nonneg, rdB, hb, w, if_false]
      exact impl_picks l hl d (i + 1) acc (by omega) (by omega)
theorem spec_picks (l : List Bool) (n : Nat) (hl : l.length ≤ 1000) (hn : n < l.length) : ∀ (d i : Nat) (acc : List Int), i + d = n + 1 → acc.length ≤ i → Ev (fun k => spec_AncestorsOf.l0 k (n : Int) l acc (i : Int)) (acc ++ picks l i d, 0)
  | 0, i, acc, hi, ha => Ev.at_ (c := 1) (fun k => by
    have c1 : ¬ ((i : Int) ≤ (n : Int)) := by omega
    simp only [spec_AncestorsOf.l0, c1, if_false, picks, List.append_nil])
  | d + 1, i, acc, hi, ha => by
    have c0 : (i : Int) ≤ (n : Int) := by omega
    have c1 : (i : Int) < (l.length : Int) := by omega
    have c2 : acc.length < 17592186044416 := by omega
    have w := wrap_i (show i < 4611686018427387904 by omega)
    refine Ev.succ (g := fun k => spec_AncestorsOf.l0 k (n : Int) l acc (i : Int)) ?_
    rw [picks]
    by_cases hb : l.getD i false = true
    · simp only [spec_AncestorsOf.l0, c0, c1, c2, if_true, Int.natCast_nonneg, rdB, hb, w]
      have h := spec_picks l n hl hn d (i + 1) (acc ++ [(i : Int)]) (by omega) (by simp; omega)
      rw [List.append_assoc, List.singleton_append] at h
      exact h
    · simp only [spec_AncestorsOf.l0, c0, c1, c2, if_true, Int.natCast_nonneg, rdB, hb, w, if_false]
      exact spec_picks l n hl hn d (i + 1) acc (by omega) (by omega)
theorem anc_both (st : List S78) (a : Int) (hl : st.length ≤ 1048576) (hf : ∀ x, x ∈ st → x.f1.length ≤ 1048576) : ∃ r c, Ev (fun k => spec_AncestorsOf.f k st a) (r, c) ∧ Ev (fun k => impl_AncestorsOf.f k st a) (r, c) ∧ r.length ≤ 1048576 := by
  have hI := idCode_ev st [a] hl hf
  have hS := l03Ask_ev st [a] (by simp)
  unfold spec_AncestorsOf.f impl_AncestorsOf.f
  by_cases h1 : (st.length : Int) > 4096
  · rw [askC_long h1] at hI
    exact ⟨[], 2, by simp only [h1, if_true]; exact Ev.now _, Ev.bind hI (Ev.now _), by simp⟩
  simp only [h1, if_false]
  by_cases h0 : askC st [a] = 0
  · obtain ⟨hs, hx⟩ := askC_zero h0
    have ha := hx a (by simp)
    obtain ⟨h60, _, _⟩ := storeB_at hs
    obtain ⟨i, rfl⟩ : ∃ i : Nat, a = (i : Int) := ⟨a.toNat, by omega⟩
    rw [h0] at hI hS
    have hlen := reachL_len st i
    have hin : ∀ j, (reachL st i).getD j false = true → 1 ≤ j ∧ j ≤ i := fun j hj => reachL_in hs (by omega) (by omega) hj
    have hout : ∀ j, i + 1 ≤ j → (reachL st i).getD j false = false := fun j hj => by
      cases h : (reachL st i).getD j false with
      | false => rfl
      | true => have := hin j h; omega
    have hz : ¬ ((reachL st i).getD 0 false = true) := fun h => by have := hin 0 h; omega
    have e1 : picks (reachL st i) 0 (st.length + 1) = picks (reachL st i) 1 i := by
      rw [picks, if_neg hz]
      have e2 : st.length = i + (st.length - i) := by omega
      rw [e2]
      exact picks_stop (reachL st i) (i + 1) hout i (st.length - i) 1 (by omega)
    refine ⟨picks (reachL st i) 1 i, 0, Ev.bind hS ?_, Ev.bind hI ?_, by have := picks_len (reachL st i) i 1; omega⟩
    · simp only [if_true]
      refine Ev.bind (reach_ev st hs i (by omega)) ?_
      have h := spec_picks (reachL st i) i (by omega) (by omega) i 1 [] (by omega) (by simp)
      rw [List.nil_append] at h
      exact h
    · simp only [if_true]
      refine Ev.bind (ancestors_ev st hs i (by omega)) ?_
      have h := impl_picks (reachL st i) (by omega) (st.length + 1) 0 [] (by omega) (by simp)
      rw [List.nil_append, e1] at h
      exact h
  · exact ⟨[], askC st [a], Ev.bind hS (by simp only [h0, if_false]; exact Ev.now _), Ev.bind hI (by simp only [h0, if_false]; exact Ev.now _), by simp⟩
theorem FnExactAncestorsOf : laws_FnExactAncestorsOf.Pure := by
  intro l0 a1 w0 w1
  refine Ev.rounds ?_
  unfold laws_FnExactAncestorsOf.f
  obtain ⟨r, hr, hrl, hrs⟩ := szCommitS_ev l0 w0.1 w0.2 1048576 (by omega) (by omega)
  refine Ev.bind hr ?_
  by_cases hn : r < 0
  · simp only [hn, if_true]
    exact Ev.now _
  simp only [hn, if_false]
  obtain ⟨hl, hf⟩ := hrs (by omega)
  have hw := szCommitS_w l0 w0.1 w0.2 1048576 r (by omega) (by omega) hr (by omega)
  have hw2 := wCs_le l0
  have ht := toCommitS_ev l0 hl hf
  have hf2 := fit_cv hf
  have hl2 : (l0.map cvCommit).length ≤ 1048576 := by simpa using hl
  obtain ⟨res, code, hs, hi, hres⟩ := anc_both (l0.map cvCommit) a1 hl2 (fun x hx => (hf2 x hx).2)
  refine Ev.bind ht (Ev.bind hs (Ev.bind ht (Ev.bind hi (Ev.bind (eqIntS_ev res hres) ?_))))
  simp only [if_true, bne_self_eq_false]
  refine Ev.succ ?_
  simp only [laws_FnExactAncestorsOf.j0, Bool.false_eq_true, if_false]
  refine Ev.bind ht (Ev.bind (eqCommitS_ev _ hl2 hf2) ?_)
  simp only [if_true]
  refine Ev.bind (markCommitS_ev (l0.map cvCommit) 1 hf2 (by omega) (by omega)) ?_
  have n1 : ¬ (1 + (wCs (l0.map cvCommit) : Int) < 0) := by omega
  simp only [n1, if_false]
  refine Ev.bind (eqIntS_ev res hres) ?_
  simp only [if_true, bne_self_eq_false]
  refine Ev.succ ?_
  simp only [laws_FnExactAncestorsOf.j1, Bool.false_eq_true, if_false]
  obtain ⟨lr, _, hmR, hhR⟩ := markIntS_ev res 1 hres (by omega) (by omega)
  have n2 : ¬ (1 + 1 * (res.length : Int) < 0) := by omega
  refine Ev.bind hmR (Ev.bind hhR ?_)
  simp only [n2, if_false, if_true]
  refine Ev.bind ht (Ev.bind hi (Ev.bind (eqIntS_ev res hres) ?_))
  simp only [if_true, bne_self_eq_false]
  refine Ev.succ ?_
  simp only [laws_FnExactAncestorsOf.j2, Bool.false_eq_true, if_false]
  refine Ev.bind hhR ?_
  simp only [n2, if_false, if_true]
  exact Ev.now _
end Go.Proofs.Ytekoaaiemmblgaa.Pure
end
