/- Loops over places, as plain Lean: from some number of rounds on they answer what all places say. -/
import Derived.Test.YtmkgkinhbahlmaaQaloops
import Derived.Test.YtmkgkinhbahlmaaQaord
import Derived.Test.YtmkgkinhbahlmaaQaidxI
namespace Go.Proofs.Ytmkgkinhbahlmaa.Q
open Go.RowKit Go.Proofs.YtmkgkinhbahlmaaW.PrintWords Go.Proofs.YtmkgkinhbahlmaaW.PrintLast
set_option linter.unusedVariables false
theorem Ev.pure_ {α : Type} {g : Option α} {r : α} (h : g = some r) : Ev (fun _ => g) r := ⟨0, fun _ _ => h⟩
theorem Ev.shift {α : Type} {g h : Nat → Option α} {r : α} {c d : Nat} (e : ∀ k, g (k + c) = h (k + d)) (k : Ev h r) : Ev g r := by
  obtain ⟨K, hK⟩ := k
  refine ⟨K + c, fun n hn => ?_⟩
  obtain ⟨m, rfl⟩ : ∃ m, n = m + c := ⟨n - c, by omega⟩
  rw [e]
  exact hK _ (by omega)
theorem Ev.at_ {α : Type} {g : Nat → Option α} {r : α} {c : Nat} (e : ∀ k, g (k + c) = some r) : Ev g r := by
  refine ⟨c, fun n hn => ?_⟩
  obtain ⟨m, rfl⟩ : ∃ m, n = m + c := ⟨n - c, by omega⟩
  exact e m
theorem Ev.succ {α : Type} {g : Nat → Option α} {r : α} (h : Ev (fun k => g (k + 1)) r) : Ev g r := Ev.step (fun _ => rfl) h
/-- A loop that asks place after place, and answers false at the first one that is not as told. -/
theorem ev_all_loop {L : Nat → Int → Option Bool} {n : Nat} {p : Nat → Bool} {fin : Bool}
    (step : ∀ i : Nat, i < n → (∀ j, j < i → p j = true) → p i = true → ∃ c d, ∀ k, L (k + c) (i : Int) = L (k + d) ((i + 1 : Nat) : Int))
    (stop : ∀ i : Nat, i < n → (∀ j, j < i → p j = true) → p i = false → ∃ c, ∀ k, L (k + c) (i : Int) = some false)
    (done : Ev (fun k => L k (n : Int)) fin) : Ev (fun k => L k 0) (allR p n && fin) := by
  have key : ∀ d (i : Nat), i + d = n → (∀ j, j < i → p j = true) → Ev (fun k => L k (i : Int)) (allR p n && fin) := by
    intro d
    induction d with
    | zero =>
      intro i hi hp
      obtain rfl : i = n := by omega
      rw [allR_true hp, Bool.true_and]
      exact done
    | succ d ih =>
      intro i hi hp
      cases h : p i with
      | true =>
        obtain ⟨c, d', e⟩ := step i (by omega) hp h
        refine Ev.shift e (ih (i + 1) (by omega) (fun j hj => ?_))
        rcases Nat.lt_or_eq_of_le (Nat.le_of_lt_succ hj) with h1 | h1
        · exact hp j h1
        · rw [h1]; exact h
      | false =>
        obtain ⟨c, e⟩ := stop i (by omega) hp h
        rw [allR_false (by omega) h, Bool.false_and]
        exact Ev.at_ e
  exact key n 0 (by omega) (fun j hj => absurd hj (Nat.not_lt_zero _))
/-- The same, where a round takes answers of other loops. -/
theorem ev_all_loop2 {L : Nat → Int → Option Bool} {n : Nat} {p : Nat → Bool} {fin : Bool}
    (step : ∀ i : Nat, i < n → (∀ j, j < i → p j = true) → p i = true → ∀ r, Ev (fun k => L k ((i + 1 : Nat) : Int)) r → Ev (fun k => L k (i : Int)) r)
    (stop : ∀ i : Nat, i < n → (∀ j, j < i → p j = true) → p i = false → Ev (fun k => L k (i : Int)) false)
    (done : Ev (fun k => L k (n : Int)) fin) (m : Nat) (hm : m ≤ n) (hpm : ∀ j, j < m → p j = true) : Ev (fun k => L k (m : Int)) (allR p n && fin) := by
  have key : ∀ d (i : Nat), i + d = n → (∀ j, j < i → p j = true) → Ev (fun k => L k (i : Int)) (allR p n && fin) := by
    intro d
    induction d with
    | zero =>
      intro i hi hp
      obtain rfl : i = n := by omega
      rw [allR_true hp, Bool.true_and]
      exact done
    | succ d ih =>
      intro i hi hp
      cases h : p i with
      | true =>
        refine step i (by omega) hp h _ (ih (i + 1) (by omega) (fun j hj => ?_))
        rcases Nat.lt_or_eq_of_le (Nat.le_of_lt_succ hj) with h1 | h1
        · exact hp j h1
        · rw [h1]; exact h
      | false =>
        rw [allR_false (by omega) h, Bool.false_and]
        exact stop i (by omega) hp h
  exact key (n - m) m (by omega) hpm
/-- A loop that seeks a place. -/
theorem ev_idx_loop {α : Type} {L : Nat → Int → Option Int} {l : List α} {q : α → Bool}
    (step : ∀ (i : Nat) (hi : i < l.length), q l[i] = false → ∀ k, L (k + 1) (i : Int) = L k ((i + 1 : Nat) : Int))
    (stop : ∀ (i : Nat) (hi : i < l.length), q l[i] = true → ∀ k, L (k + 1) (i : Int) = some (i : Int))
    (done : ∀ k, L (k + 1) (l.length : Int) = some (-1)) : Ev (fun k => L k 0) (idxI q l) := by
  have key : ∀ d (i : Nat), i + d = l.length → (∀ j (hj : j < l.length), j < i → q l[j] = false) → Ev (fun k => L k (i : Int)) (idxI q l) := by
    intro d
    induction d with
    | zero =>
      intro i hi hp
      obtain rfl : i = l.length := by omega
      rw [idxI_none (fun j hj => hp j hj hj)]
      exact Ev.at_ (c := 1) done
    | succ d ih =>
      intro i hi hp
      cases h : q (l[i]'(by omega)) with
      | false =>
        refine Ev.step (step i (by omega) h) (ih (i + 1) (by omega) (fun j hj h2 => ?_))
        rcases Nat.lt_or_eq_of_le (Nat.le_of_lt_succ h2) with h1 | h1
        · exact hp j hj h1
        · subst h1; exact h
      | true =>
        rw [idxI_some (by omega) (fun j hj => hp j (by omega) hj) h]
        exact Ev.at_ (c := 1) (stop i (by omega) h)
  exact key l.length 0 (by omega) (fun j _ hj => absurd hj (Nat.not_lt_zero _))
/-- A loop that holds two lists of one length against each other. -/
theorem ev_same_loop {α : Type} {L : Nat → Int → Option Bool} {xs ys : List α} (hl : xs.length = ys.length)
    (step : ∀ (i : Nat) (h1 : i < xs.length) (h2 : i < ys.length), xs[i] = ys[i] → ∀ k, L (k + 1) (i : Int) = L k ((i + 1 : Nat) : Int))
    (stop : ∀ (i : Nat) (h1 : i < xs.length) (h2 : i < ys.length), xs[i] ≠ ys[i] → ∀ k, L (k + 1) (i : Int) = some false)
    (done : ∀ k, L (k + 1) (xs.length : Int) = some true) : ∃ b, Ev (fun k => L k 0) b ∧ (b = true ↔ xs = ys) := by
  have key : ∀ d (i : Nat), i + d = xs.length → xs.take i = ys.take i → ∃ b, Ev (fun k => L k (i : Int)) b ∧ (b = true ↔ xs = ys) := by
    intro d
    induction d with
    | zero =>
      intro i hi hp
      obtain rfl : i = xs.length := by omega
      refine ⟨true, Ev.at_ (c := 1) done, fun _ => ?_, fun _ => rfl⟩
      rw [List.take_length, hl, List.take_length] at hp
      exact hp
    | succ d ih =>
      intro i hi hp
      have h1 : i < xs.length := by omega
      have h2 : i < ys.length := by omega
      rcases Classical.em (xs[i] = ys[i]) with h | h
      · obtain ⟨b, hb, hb2⟩ := ih (i + 1) (by omega) (by rw [List.take_succ_eq_append_getElem h1, List.take_succ_eq_append_getElem h2, hp, h])
        exact ⟨b, Ev.step (step i h1 h2 h) hb, hb2⟩
      · refine ⟨false, Ev.at_ (c := 1) (stop i h1 h2 h), by simp, fun e => absurd (by subst e; rfl) h⟩
  exact key xs.length 0 (by omega) (by simp)
theorem all_allR {α : Type} (q : α → Bool) (z : α) (l : List α) : l.all q = allR (fun j => q (l.getD j z)) l.length := by
  rw [Bool.eq_iff_iff, List.all_eq_true, allR_iff]
  constructor
  · intro h j hj
    rw [List.getD_eq_getElem?_getD, List.getElem?_eq_getElem hj]
    exact h _ (List.getElem_mem hj)
  · intro h x hx
    obtain ⟨j, hj, rfl⟩ := List.mem_iff_getElem.mp hx
    have := h j hj
    rwa [List.getD_eq_getElem?_getD, List.getElem?_eq_getElem hj] at this
theorem allR_and (p q : Nat → Bool) (n : Nat) : allR (fun j => p j && q j) n = (allR p n && allR q n) := by
  rw [Bool.eq_iff_iff, Bool.and_eq_true, allR_iff, allR_iff, allR_iff]
  simp only [Bool.and_eq_true]
  exact ⟨fun h => ⟨fun j hj => (h j hj).1, fun j hj => (h j hj).2⟩, fun h j hj => ⟨h.1 j hj, h.2 j hj⟩⟩
theorem allR_congr {p q : Nat → Bool} {n : Nat} (h : ∀ j, j < n → p j = q j) : allR p n = allR q n := by
  rw [Bool.eq_iff_iff, allR_iff, allR_iff]
  exact ⟨fun h2 j hj => by rw [← h j hj]; exact h2 j hj, fun h2 j hj => by rw [h j hj]; exact h2 j hj⟩
theorem bool_eq_of_iff {a b : Bool} {P : Prop} (h : a = true ↔ P) (k : b = true ↔ P) : a = b := by
  rw [Bool.eq_iff_iff, h, k]
theorem wrap_i {i : Nat} (h : i < 4611686018427387904) : wrap64 ((i : Int) + 1) = ((i + 1 : Nat) : Int) := by unfold wrap64; omega
theorem wrap_1 {i : Int} (h0 : 0 ≤ i) (h : i < 4611686018427387904) : wrap64 (i - 1) = i - 1 := by unfold wrap64; omega
theorem wrap_2 {i : Int} (h0 : -4611686018427387904 ≤ i) (h : i < 4611686018427387904) : wrap64 (i + 1) = i + 1 := by unfold wrap64; omega
end Go.Proofs.Ytmkgkinhbahlmaa.Q
