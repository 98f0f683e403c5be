/- Parts of the proof of the law FnExactDrainWatch, joined into one text. -/
import Derived.Test.YtmkgkinhbahlmaaMFnExactDrainWatch4
section
namespace Go.Proofs.Ytmkgkinhbahlmaa.Q
open Go.RowKit Go.Proofs.YtmkgkinhbahlmaaW.PrintWords Go.Proofs.YtmkgkinhbahlmaaW.PrintLast Go.Proofs.YtmkgkinhbahlmaaW.PrintMore
attribute [local go_sem] max2_int min2_int max_two min_two max_three min_three max_four min_four   -- for this text's walks alone
set_option linter.unusedVariables false
set_option linter.unusedSimpArgs false
attribute [local go_sem] bin_leq bin_gtr bin_geq
def Opens {α : Type} (P : Program) (d : Kd α) (t : TypeId) (G : α → Prop) : Prop :=
  P.cellsOf t = d.sz ∧ ∀ {H : Type} (enc : TypeId × Value → H) (w : World) (base : Nat) (spare : Nat → Bool) (held : Bool) (fuel : Nat) (cs : List Value) (x : DataW H × List MemPlace),
    DataW.trod enc P w base spare held fuel t cs = some x → ∃ v, d.K w v cs ∧ G v
theorem add_twice (a : Addr) (m i : Nat) : (a.add m).add i = a.add (m + i) := by
  unfold Addr.add
  by_cases h1 : m = 0 <;> by_cases h2 : i = 0 <;> simp_all [Nat.add_assoc]
theorem opens_int {P : Program} {t : TypeId} {k : IntKind} (ht : P.underlying t = some (.int k)) (hc : P.cellsOf t = 1) : Opens P (Kd.int k) t (fun n => (Lit.int k n).wf = true) := by
  refine ⟨hc, fun enc w base spare held fuel cs x h => ?_⟩
  cases fuel with
  | zero => simp [DataW.trod] at h
  | succ n =>
    unfold DataW.trod at h
    rw [ht] at h
    split at h <;> simp_all
    obtain ⟨⟨rfl, h1⟩, _⟩ := h
    exact ⟨_, rfl, h1⟩
theorem opens_bool {P : Program} {t : TypeId} (ht : P.underlying t = some .bool) (hc : P.cellsOf t = 1) : Opens P Kd.bool t (fun _ => True) := by
  refine ⟨hc, fun enc w base spare held fuel cs x h => ?_⟩
  cases fuel with
  | zero => simp [DataW.trod] at h
  | succ n =>
    unfold DataW.trod at h
    rw [ht] at h
    split at h <;> simp_all
    rename_i b
    cases b
    · exact .inl rfl
    · exact .inr rfl
theorem opens_string {P : Program} {t : TypeId} (ht : P.underlying t = some .string) (hc : P.cellsOf t = 1) : Opens P Kd.string t (fun s => s.size ≤ 9223372036854775807) := by
  refine ⟨hc, fun enc w base spare held fuel cs x h => ?_⟩
  cases fuel with
  | zero => simp [DataW.trod] at h
  | succ n =>
    unfold DataW.trod at h
    rw [ht] at h
    split at h <;> simp_all
    exact ⟨_, rfl, h.1⟩
theorem list_of {α : Type} {Q : Nat → α → Prop} : ∀ n, (∀ i, i < n → ∃ v, Q i v) → ∃ l : List α, l.length = n ∧ ∀ i v, l[i]? = some v → Q i v
  | 0, _ => ⟨[], rfl, fun i v h => by simp at h⟩
  | n + 1, h => by
    obtain ⟨l, hl, hq⟩ := list_of n (fun i hi => h i (by omega))
    obtain ⟨v, hv⟩ := h n (by omega)
    refine ⟨l ++ [v], by simp [hl], fun i u hu => ?_⟩
    by_cases hi : i < l.length
    · rw [List.getElem?_append_left hi] at hu
      exact hq i u hu
    · have hi2 : i = l.length := by
        have := (List.getElem?_eq_some_iff.1 hu).1
        rw [List.length_append, List.length_singleton] at this
        omega
      subst hi2
      have hu' : v = u := by simpa using hu
      subst hu'
      rw [hl]
      exact hv
theorem opens_slice {α : Type} {P : Program} {d : Kd α} {t e : TypeId} {G : α → Prop} (ht : P.underlying t = some (.slice e)) (hc : P.cellsOf t = 1) (O : Opens P d e G) :
    Opens P (Kd.slice e d) t (fun l => l.length ≤ 9223372036854775807 ∧ ∀ x, x ∈ l → G x) := by
  refine ⟨hc, fun enc w base spare held fuel cs x h => ?_⟩
  rcases DataW.trod_slice ht h with ⟨rfl, _⟩ | ⟨a, len, cap, elems, rest, n, _, rfl, _, hb, hl, hm, hlen, hel, _, _⟩
  · exact ⟨[], ⟨none, 0, rfl, Nat.le_refl _, Kd.C_nil d w⟩, by simp, fun x hx => by simp at hx⟩
  · have each : ∀ i, i < len → ∃ v : α, (∃ c, c.length = d.sz ∧ d.K w v c ∧ ∀ j u, c[j]? = some u → w.cell? (a.add (i * d.sz + j)) = some u) ∧ G v := by
      intro i hi
      have h1 := hel i hi
      have h2 : elems[i]? = some (elems[i]'(by omega)) := List.getElem?_eq_getElem (by omega)
      rw [h2, Option.bind_eq_some_iff] at h1
      obtain ⟨c, hcc, htr⟩ := h1
      obtain ⟨v, hK, hG⟩ := O.2 enc w base spare held n c _ htr
      obtain ⟨_, hcl, hcells⟩ := World.cells?_some hcc
      refine ⟨v, ⟨c, d.K_len hK, hK, fun j u hu => ?_⟩, hG⟩
      have hj : j < c.length := (List.getElem?_eq_some_iff.1 hu).1
      have := hcells j (by omega)
      rw [hu, add_twice, O.1] at this
      exact this
    obtain ⟨l, hll, hq⟩ := list_of len each
    refine ⟨l, ⟨some a, cap, by rw [hll], by omega, hll ▸ ?_⟩, by unfold maxLen at hm; omega, fun x hx => ?_⟩
    · refine ⟨hll, by unfold maxLen at hm; omega, fun hp => ⟨a, rfl, fun j p hj => ?_⟩⟩
      obtain ⟨c, h1, h2, h3⟩ := (hq j p hj).1
      exact ⟨c, h1, h2, h3⟩
    · obtain ⟨i, hi, rfl⟩ := List.mem_iff_getElem.mp hx
      exact (hq i _ (List.getElem?_eq_getElem hi)).2
end Go.Proofs.Ytmkgkinhbahlmaa.Q
end

section
namespace Go.Proofs.Ytmkgkinhbahlmaa.Q
open Go.RowKit Go.Proofs.YtmkgkinhbahlmaaW.PrintWords Go.Proofs.YtmkgkinhbahlmaaW.PrintLast Go.Proofs.YtmkgkinhbahlmaaW.PrintMore
attribute [local go_sem] max2_int min2_int max_two min_two max_three min_three max_four min_four   -- for this text's walks alone
set_option linter.unusedVariables false
set_option linter.unusedSimpArgs false
attribute [local go_sem] bin_leq bin_gtr bin_geq
def good142 (x : S142) : Prop := (fun n => (Lit.int .i64 n).wf = true) x.f0 ∧ (fun n => (Lit.int .i64 n).wf = true) x.f1 ∧ (fun _ => True) x.f2
set_option maxRecDepth 100000 in
theorem opens_142 : Opens Try.prog k142 142 good142 := by
  refine ⟨by kernel_rfl, fun enc w base spare held fuel cs x h => ?_⟩
  obtain ⟨xs, n, _, _, hcl, hxl, hf⟩ := DataW.trod_struct Try.underlying142 h
  have hcl2 : cs.length = 3 := hcl.trans (by kernel_rfl)
  obtain ⟨c0, c1, c2, rfl⟩ : ∃ c0 c1 c2, cs = [c0, c1, c2] := by
    match cs, hcl2 with
    | [c0, c1, c2], _ => exact ⟨c0, c1, c2, rfl⟩
  have h0 := hf 0 _ rfl
  rw [List.getElem?_eq_getElem (show 0 < xs.length by rw [hxl]; decide)] at h0
  obtain ⟨v0, K0, G0⟩ := (opens_int (k := .i64) Try.underlying3 (by kernel_rfl)).2 enc w base spare held n [c0] _ ((show DataW.trod enc Try.prog w base spare held n 3 [c0] = _ from (by first | exact h0 | (rw [show Try.prog.cellsOf 3 = 1 by kernel_rfl] at h0; exact h0))))
  have h1 := hf 1 _ rfl
  rw [List.getElem?_eq_getElem (show 1 < xs.length by rw [hxl]; decide)] at h1
  obtain ⟨v1, K1, G1⟩ := (opens_int (k := .i64) Try.underlying3 (by kernel_rfl)).2 enc w base spare held n [c1] _ ((show DataW.trod enc Try.prog w base spare held n 3 [c1] = _ from (by first | exact h1 | (rw [show Try.prog.cellsOf 3 = 1 by kernel_rfl] at h1; exact h1))))
  have h2 := hf 2 _ rfl
  rw [List.getElem?_eq_getElem (show 2 < xs.length by rw [hxl]; decide)] at h2
  obtain ⟨v2, K2, G2⟩ := (opens_bool Try.underlying4 (by kernel_rfl)).2 enc w base spare held n [c2] _ ((show DataW.trod enc Try.prog w base spare held n 4 [c2] = _ from (by first | exact h2 | (rw [show Try.prog.cellsOf 4 = 1 by kernel_rfl] at h2; exact h2))))
  exact ⟨⟨v0, v1, v2⟩, ⟨[c0], [c1, c2], rfl, K0, ⟨[c1], [c2], rfl, K1, K2⟩⟩, ⟨G0, G1, G2⟩⟩
end Go.Proofs.Ytmkgkinhbahlmaa.Q
end

section
namespace Go.Proofs.Ytmkgkinhbahlmaa.Q
open Go.RowKit Go.Proofs.YtmkgkinhbahlmaaW.PrintWords Go.Proofs.YtmkgkinhbahlmaaW.PrintLast Go.Proofs.YtmkgkinhbahlmaaW.PrintMore
attribute [local go_sem] max2_int min2_int max_two min_two max_three min_three max_four min_four   -- for this text's walks alone
set_option linter.unusedVariables false
set_option linter.unusedSimpArgs false
attribute [local go_sem] bin_leq bin_gtr bin_geq
def good53 (x : S53) : Prop := (fun s => s.size ≤ 9223372036854775807) x.f0 ∧ (fun n => (Lit.int .i64 n).wf = true) x.f1 ∧ (fun l => l.length ≤ 9223372036854775807 ∧ ∀ x, x ∈ l → good142 x) x.f2
set_option maxRecDepth 100000 in
theorem opens_53 : Opens Try.prog k53 53 good53 := by
  refine ⟨by kernel_rfl, fun enc w base spare held fuel cs x h => ?_⟩
  obtain ⟨xs, n, _, _, hcl, hxl, hf⟩ := DataW.trod_struct Try.underlying53 h
  have hcl2 : cs.length = 3 := hcl.trans (by kernel_rfl)
  obtain ⟨c0, c1, c2, rfl⟩ : ∃ c0 c1 c2, cs = [c0, c1, c2] := by
    match cs, hcl2 with
    | [c0, c1, c2], _ => exact ⟨c0, c1, c2, rfl⟩
  have h0 := hf 0 _ rfl
  rw [List.getElem?_eq_getElem (show 0 < xs.length by rw [hxl]; decide)] at h0
  obtain ⟨v0, K0, G0⟩ := (opens_string Try.underlying9 (by kernel_rfl)).2 enc w base spare held n [c0] _ ((show DataW.trod enc Try.prog w base spare held n 9 [c0] = _ from (by first | exact h0 | (rw [show Try.prog.cellsOf 9 = 1 by kernel_rfl] at h0; exact h0))))
  have h1 := hf 1 _ rfl
  rw [List.getElem?_eq_getElem (show 1 < xs.length by rw [hxl]; decide)] at h1
  obtain ⟨v1, K1, G1⟩ := (opens_int (k := .i64) Try.underlying3 (by kernel_rfl)).2 enc w base spare held n [c1] _ ((show DataW.trod enc Try.prog w base spare held n 3 [c1] = _ from (by first | exact h1 | (rw [show Try.prog.cellsOf 3 = 1 by kernel_rfl] at h1; exact h1))))
  have h2 := hf 2 _ rfl
  rw [List.getElem?_eq_getElem (show 2 < xs.length by rw [hxl]; decide)] at h2
  obtain ⟨v2, K2, G2⟩ := (opens_slice Try.underlying25 (by kernel_rfl) opens_142).2 enc w base spare held n [c2] _ ((show DataW.trod enc Try.prog w base spare held n 25 [c2] = _ from (by first | exact h2 | (rw [show Try.prog.cellsOf 25 = 1 by kernel_rfl] at h2; exact h2))))
  exact ⟨⟨v0, v1, v2⟩, ⟨[c0], [c1, c2], rfl, K0, ⟨[c1], [c2], rfl, K1, K2⟩⟩, ⟨G0, G1, G2⟩⟩
end Go.Proofs.Ytmkgkinhbahlmaa.Q
end

section
namespace Go.Proofs.Ytmkgkinhbahlmaa.Q
open Go.RowKit Go.Proofs.YtmkgkinhbahlmaaW.PrintWords Go.Proofs.YtmkgkinhbahlmaaW.PrintLast Go.Proofs.YtmkgkinhbahlmaaW.PrintMore
attribute [local go_sem] max2_int min2_int max_two min_two max_three min_three max_four min_four   -- for this text's walks alone
set_option linter.unusedVariables false
set_option linter.unusedSimpArgs false
attribute [local go_sem] bin_leq bin_gtr bin_geq
def laws_FnExactDrainWatch.Pure : Prop := ∀ (a0_0 : ByteArray) (a0_1 : Int) (l0_2 : List (S142)), good53 (⟨a0_0, a0_1, l0_2⟩ : S53) → ∃ k, laws_FnExactDrainWatch.f k a0_0 a0_1 l0_2 = some true
theorem laws_FnExactDrainWatch.walk (P : laws_FnExactDrainWatch.Pure) (a0_0 : ByteArray) (a0_1 : Int) (A0_2 : Option Addr) (c0_2 : Nat) (l0_2 : List (S142)) (w : World) (w0 : good53 (⟨a0_0, a0_1, l0_2⟩ : S53)) (hr0_2 : Kd.C k142 w A0_2 l0_2.length l0_2) (hc0_2 : l0_2.length ≤ c0_2) :
    Calls Try.prog 15 #[.agg #[.string a0_0, .int .i64 a0_1, .slice A0_2 l0_2.length c0_2]] w fun e w' => e = .returned (.bool true) ∧ Below w.heap.size w w' := by
  obtain ⟨k, hk⟩ := P a0_0 a0_1 l0_2 w0
  exact (laws_FnExactDrainWatch.calls k a0_0 a0_1 A0_2 c0_2 l0_2 w hr0_2 hc0_2 hk).mono fun e w' h => ⟨h.1, h.2⟩
end Go.Proofs.Ytmkgkinhbahlmaa.Q
end

section
namespace Go.Proofs.Ytmkgkinhbahlmaa.Q
open Go.RowKit Go.Proofs.YtmkgkinhbahlmaaW.PrintWords Go.Proofs.YtmkgkinhbahlmaaW.PrintLast Go.Proofs.YtmkgkinhbahlmaaW.PrintMore
attribute [local go_sem] max2_int min2_int max_two min_two max_three min_three max_four min_four   -- for this text's walks alone
set_option linter.unusedVariables false
set_option linter.unusedSimpArgs false
attribute [local go_sem] bin_leq bin_gtr bin_geq
theorem eqA140 (d : Nat) (w : World) (x0 y0 : Int) (x1 y1 : Int) (x2 y2 : Bool) :
    (Op.equalIn (d + 2) 140 (.agg #[.int .i64 x0, .int .i64 x1, .bool x2]) (.agg #[.int .i64 y0, .int .i64 y1, .bool y2])).run Try.prog w = .ok (x0 == y0 && (x1 == y1 && (x2 == y2))) w := by
  refine eqA_of Try.underlying140 (by kernel_rfl) ?_
  refine eqf_cons (by rfl) (by go_simp; rfl) (by go_simp; rfl) (by go_simp) ?_
  refine eqf_cons (by rfl) (by go_simp; rfl) (by go_simp; rfl) (by go_simp) ?_
  exact eqf_last (by rfl) (by go_simp; rfl) (by go_simp; rfl) (by go_simp)
end Go.Proofs.Ytmkgkinhbahlmaa.Q
end

section
namespace Go.Proofs.Ytmkgkinhbahlmaa.Q
open Go.RowKit Go.Proofs.YtmkgkinhbahlmaaW.PrintWords Go.Proofs.YtmkgkinhbahlmaaW.PrintLast Go.Proofs.YtmkgkinhbahlmaaW.PrintMore
attribute [local go_sem] max2_int min2_int max_two min_two max_three min_three max_four min_four   -- for this text's walks alone
set_option linter.unusedVariables false
set_option linter.unusedSimpArgs false
attribute [local go_sem] bin_leq bin_gtr bin_geq
theorem ev_map_loop {α β : Type} {L : Nat → List α → List β → Int → Option (List β)} {g : Nat → α → Option β} {cv : α → β} {z : α}
    (step : ∀ k xs acc i, L (k + 1) xs acc i = if i < (xs.length : Int) then (if 0 ≤ i then ((g k (xs.getD i.toNat z)).bind fun y => (if i < (acc.length : Int) then (L k xs (acc.set i.toNat y) (wrap64 (i + 1))) else none)) else none) else some acc)
    (xs : List α) (hlen : xs.length ≤ 4611686018427387904) (hg : ∀ x, x ∈ xs → Ev (fun k => g k x) (cv x)) (acc : List β) (ha : acc.length = xs.length) : Ev (fun k => L k xs acc 0) (xs.map cv) := by
  have key : ∀ d (i : Nat) (acc : List β), i + d = xs.length → acc.length = xs.length → Ev (fun k => L k xs acc (i : Int)) (acc.take i ++ (xs.drop i).map cv) := by
    intro d
    induction d with
    | zero =>
      intro i acc hi ha
      refine Ev.step (f := fun _ => some acc) (fun k => by rw [step, if_neg (by omega)]) ?_
      rw [List.take_of_length_le (by omega), List.drop_eq_nil_of_le (by omega)]
      simpa using Ev.now acc
    | succ d ih =>
      intro i acc hi ha
      have hl : i < xs.length := by omega
      have hw : wrap64 ((i : Int) + 1) = ((i + 1 : Nat) : Int) := by unfold wrap64; omega
      have hx : xs.getD ((i : Int).toNat) z = xs[i] := by simp [List.getD_eq_getElem?_getD, List.getElem?_eq_getElem hl]
      refine Ev.step (f := fun k => (g k xs[i]).bind fun y => L k xs (acc.set i y) ((i + 1 : Nat) : Int)) (fun k => ?_) ?_
      · rw [step, if_pos (by omega), if_pos (by omega), hx, hw]
        congr 1
        funext y
        rw [if_pos (by omega)]
        simp
      · have h2 := ih (i + 1) (acc.set i (cv xs[i])) (by omega) (by simpa using ha)
        have e : (acc.set i (cv xs[i])).take (i + 1) ++ (xs.drop (i + 1)).map cv = acc.take i ++ (xs.drop i).map cv := by
          rw [List.drop_eq_getElem_cons hl, List.map_cons, List.take_succ_eq_append_getElem (by simpa using (show i < acc.length by omega)), List.take_set_of_le (by omega)]
          simp
        rw [e] at h2
        exact Ev.bind (hg _ (List.getElem_mem hl)) h2
  have h := key xs.length 0 acc (by omega) ha
  simpa using h
theorem ev_refl_loop {α : Type} {L : Nat → List α → List α → Int → Option Bool} {g : Nat → α → α → Option Bool} {z : α}
    (step : ∀ k xs ys i, L (k + 1) xs ys i = if i < (xs.length : Int) then (if 0 ≤ i then (if i < (ys.length : Int) then ((g k (xs.getD i.toNat z) (ys.getD i.toNat z)).bind fun t => (if t = true then L k xs ys (wrap64 (i + 1)) else some false)) else none) else none) else some true)
    (xs : List α) (hlen : xs.length ≤ 4611686018427387904) (hg : ∀ x, x ∈ xs → Ev (fun k => g k x x) true) : Ev (fun k => L k xs xs 0) true := by
  have key : ∀ d (i : Nat), i + d = xs.length → Ev (fun k => L k xs xs (i : Int)) true := by
    intro d
    induction d with
    | zero =>
      intro i hi
      exact Ev.step (f := fun _ => some true) (fun k => by rw [step, if_neg (by omega)]) (Ev.now true)
    | succ d ih =>
      intro i hi
      have hl : i < xs.length := by omega
      have hw : wrap64 ((i : Int) + 1) = ((i + 1 : Nat) : Int) := by unfold wrap64; omega
      have hx : xs.getD ((i : Int).toNat) z = xs[i] := by simp [List.getD_eq_getElem?_getD, List.getElem?_eq_getElem hl]
      refine Ev.step (f := fun k => (g k xs[i] xs[i]).bind fun t => if t = true then L k xs xs ((i + 1 : Nat) : Int) else some false) (fun k => ?_) ?_
      · rw [step, if_pos (by omega), if_pos (by omega), if_pos (by omega), hx, hw]
      · refine Ev.bind (hg _ (List.getElem_mem hl)) ?_
        simp only [if_true]
        exact ih (i + 1) (by omega)
  exact key xs.length 0 (by omega)
end Go.Proofs.Ytmkgkinhbahlmaa.Q
end

section
namespace Go.Proofs.Ytmkgkinhbahlmaa.Q
open Go.RowKit Go.Proofs.YtmkgkinhbahlmaaW.PrintWords Go.Proofs.YtmkgkinhbahlmaaW.PrintLast
set_option linter.unusedVariables false
theorem Ev.pure_ {α : Type} {g : Option α} {r : α} (h : g = some r) : Ev (fun _ => g) r := ⟨0, fun _ _ => h⟩
theorem Ev.shift {α : Type} {g h : Nat → Option α} {r : α} {c d : Nat} (e : ∀ k, g (k + c) = h (k + d)) (k : Ev h r) : Ev g r := by
  obtain ⟨K, hK⟩ := k
  refine ⟨K + c, fun n hn => ?_⟩
  obtain ⟨m, rfl⟩ : ∃ m, n = m + c := ⟨n - c, by omega⟩
  rw [e]
  exact hK _ (by omega)
theorem Ev.at_ {α : Type} {g : Nat → Option α} {r : α} {c : Nat} (e : ∀ k, g (k + c) = some r) : Ev g r := by
  refine ⟨c, fun n hn => ?_⟩
  obtain ⟨m, rfl⟩ : ∃ m, n = m + c := ⟨n - c, by omega⟩
  exact e m
theorem Ev.succ {α : Type} {g : Nat → Option α} {r : α} (h : Ev (fun k => g (k + 1)) r) : Ev g r := Ev.step (fun _ => rfl) h
theorem ev_all_loop {L : Nat → Int → Option Bool} {n : Nat} {p : Nat → Bool} {fin : Bool}
    (step : ∀ i : Nat, i < n → (∀ j, j < i → p j = true) → p i = true → ∃ c d, ∀ k, L (k + c) (i : Int) = L (k + d) ((i + 1 : Nat) : Int))
    (stop : ∀ i : Nat, i < n → (∀ j, j < i → p j = true) → p i = false → ∃ c, ∀ k, L (k + c) (i : Int) = some false)
    (done : Ev (fun k => L k (n : Int)) fin) : Ev (fun k => L k 0) (allR p n && fin) := by
  have key : ∀ d (i : Nat), i + d = n → (∀ j, j < i → p j = true) → Ev (fun k => L k (i : Int)) (allR p n && fin) := by
    intro d
    induction d with
    | zero =>
      intro i hi hp
      obtain rfl : i = n := by omega
      rw [allR_true hp, Bool.true_and]
      exact done
    | succ d ih =>
      intro i hi hp
      cases h : p i with
      | true =>
        obtain ⟨c, d', e⟩ := step i (by omega) hp h
        refine Ev.shift e (ih (i + 1) (by omega) (fun j hj => ?_))
        rcases Nat.lt_or_eq_of_le (Nat.le_of_lt_succ hj) with h1 | h1
        · exact hp j h1
        · rw [h1]; exact h
      | false =>
        obtain ⟨c, e⟩ := stop i (by omega) hp h
        rw [allR_false (by omega) h, Bool.false_and]
        exact Ev.at_ e
  exact key n 0 (by omega) (fun j hj => absurd hj (Nat.not_lt_zero _))
theorem ev_all_loop2 {L : Nat → Int → Option Bool} {n : Nat} {p : Nat → Bool} {fin : Bool} (m : Nat)
    (step : ∀ i : Nat, m ≤ i → i < n → (∀ j, j < i → p j = true) → p i = true → ∀ r, Ev (fun k => L k ((i + 1 : Nat) : Int)) r → Ev (fun k => L k (i : Int)) r)
    (stop : ∀ i : Nat, m ≤ i → i < n → (∀ j, j < i → p j = true) → p i = false → Ev (fun k => L k (i : Int)) false)
    (done : Ev (fun k => L k (n : Int)) fin) (hm : m ≤ n) (hpm : ∀ j, j < m → p j = true) : Ev (fun k => L k (m : Int)) (allR p n && fin) := by
  have key : ∀ d (i : Nat), m ≤ i → i + d = n → (∀ j, j < i → p j = true) → Ev (fun k => L k (i : Int)) (allR p n && fin) := by
    intro d
    induction d with
    | zero =>
      intro i _ hi hp
      obtain rfl : i = n := by omega
      rw [allR_true hp, Bool.true_and]
      exact done
    | succ d ih =>
      intro i hmi hi hp
      cases h : p i with
      | true =>
        refine step i hmi (by omega) hp h _ (ih (i + 1) (by omega) (by omega) (fun j hj => ?_))
        rcases Nat.lt_or_eq_of_le (Nat.le_of_lt_succ hj) with h1 | h1
        · exact hp j h1
        · rw [h1]; exact h
      | false =>
        rw [allR_false (by omega) h, Bool.false_and]
        exact stop i hmi (by omega) hp h
  exact key (n - m) m (Nat.le_refl _) (by omega) hpm
theorem wrap_i {i : Nat} (h : i < 4611686018427387904) : wrap64 ((i : Int) + 1) = ((i + 1 : Nat) : Int) := by unfold wrap64; omega
theorem wrap_1 {i : Int} (h0 : 0 ≤ i) (h : i < 4611686018427387904) : wrap64 (i - 1) = i - 1 := by unfold wrap64; omega
theorem wrap_2 {i : Int} (h0 : -4611686018427387904 ≤ i) (h : i < 4611686018427387904) : wrap64 (i + 1) = i + 1 := by unfold wrap64; omega
end Go.Proofs.Ytmkgkinhbahlmaa.Q
end

section
namespace Go.Proofs.Ytmkgkinhbahlmaa.Q
open Go.RowKit Go.Proofs.YtmkgkinhbahlmaaW.PrintWords Go.Proofs.YtmkgkinhbahlmaaW.PrintLast
set_option linter.unusedVariables false
theorem within_ev (a b c : Int) : impl_within.f a b c = some (inB a b c) := by
  unfold impl_within.f inB
  by_cases h : b ≤ a <;> simp [h]
theorem eventsOK_ev (l : List S140) (hlen : l.length ≤ 1048576) : Ev (fun k => impl_EventsOK.f k l) (eventsB l && decide ((l.length : Int) ≤ 4096)) := by
  refine ev_all_loop (L := fun k i => impl_EventsOK.l0 k l l (l.length : Int) i) (p := evAt l) ?_ ?_ ?_
  · intro i hi hb hp
    refine ⟨2, 0, fun k => ?_⟩
    have c1 : (i : Int) < (l.length : Int) := by omega
    have c2 : (0 : Int) ≤ (i : Int) := by omega
    simp only [evAt, evB, Bool.and_eq_true, Bool.or_eq_true, beq_iff_eq, decide_eq_true_eq] at hp
    obtain ⟨⟨h1, h2⟩, h3⟩ := hp
    simp only [impl_EventsOK.l0, impl_EventsOK.j1, within_ev, h1, h2, c1, c2, if_true, Option.bind_some, Bool.not_true, Bool.false_eq_true, if_false, wrap_i (show i < 4611686018427387904 by omega), Nat.add_zero]
    rcases Nat.eq_zero_or_pos i with h0 | h0
    · subst h0
      simp
    · have c3 : (i : Int) > 0 := by omega
      have w1 := wrap_1 c2 (by omega)
      have c4 : (0 : Int) ≤ (i : Int) - 1 := by omega
      have c5 : (i : Int) - 1 < (l.length : Int) := by omega
      have hq := hb (i - 1) (by omega)
      simp only [evAt, evB, inB, Bool.and_eq_true, decide_eq_true_eq] at hq
      have e : ((i - 1 : Nat) : Int) = (i : Int) - 1 := by omega
      rw [e] at hq
      have w2 := wrap_2 (i := (rd_T140 l ((i : Int) - 1)).f0) (by omega) (by omega)
      simp only [c3, w1, c4, c5, w2, if_true]
      rcases h3 with h3 | ⟨h3, h4⟩
      · omega
      · rw [if_neg (by omega)]
        rcases h4 with h4 | h4
        · rw [h4]; simp
        · rw [if_neg (by omega)]
  · intro i hi hb hp
    refine ⟨2, fun k => ?_⟩
    have c1 : (i : Int) < (l.length : Int) := by omega
    have c2 : (0 : Int) ≤ (i : Int) := by omega
    simp only [impl_EventsOK.l0, impl_EventsOK.j1, within_ev, c1, c2, if_true, Option.bind_some]
    cases h1 : inB (rd_T140 l (i : Int)).f0 1 1000000 with
    | false => simp
    | true =>
      cases h2 : inB (rd_T140 l (i : Int)).f1 0 60 with
      | false => simp
      | true =>
        simp only [evAt, evB, h1, h2, Bool.true_and] at hp
        simp only [if_true, Bool.not_true, Bool.false_eq_true, if_false]
        rcases Nat.eq_zero_or_pos i with h0 | h0
        · subst h0
          simp at hp
        · have c3 : (i : Int) > 0 := by omega
          have w1 := wrap_1 c2 (by omega)
          have c4 : (0 : Int) ≤ (i : Int) - 1 := by omega
          have c5 : (i : Int) - 1 < (l.length : Int) := by omega
          have hq := hb (i - 1) (by omega)
          simp only [evAt, evB, inB, Bool.and_eq_true, decide_eq_true_eq] at hq
          have e : ((i - 1 : Nat) : Int) = (i : Int) - 1 := by omega
          rw [e] at hq
          have w2 := wrap_2 (i := (rd_T140 l ((i : Int) - 1)).f0) (by omega) (by omega)
          have z : (i == 0) = false := by simp; omega
          simp only [z, Bool.false_or, Bool.and_eq_false_iff, decide_eq_false_iff_not, Bool.or_eq_false_iff] at hp
          simp only [c3, w1, c4, c5, w2, if_true]
          by_cases h3 : (rd_T140 l (i : Int)).f0 ≤ (rd_T140 l ((i : Int) - 1)).f0
          · rw [if_pos h3]
          · rw [if_neg h3]
            rcases hp with hp | ⟨hp, hp2⟩
            · omega
            · rw [if_pos (by omega), hp]; simp
  · refine Ev.step (f := fun _ => some (decide ((l.length : Int) ≤ 4096))) (fun k => ?_) (Ev.now _)
    simp only [impl_EventsOK.l0]
    rw [if_neg (by omega)]
    rfl
end Go.Proofs.Ytmkgkinhbahlmaa.Q
end

section
namespace Go.Proofs.Ytmkgkinhbahlmaa.Q
open Go.RowKit Go.Proofs.YtmkgkinhbahlmaaW.PrintWords Go.Proofs.YtmkgkinhbahlmaaW.PrintLast
theorem l00Word_ev (s : ByteArray) : Ev (fun k => spec_l00Word.f k s) (nameB s) := Ev.of (fun k => spec_l00Word.mono s k) (l00Word_f s)
theorem l01In_is (a b c : Int) : spec_l01In.f a b c = some (inB a b c) := by
  unfold spec_l01In.f inB
  by_cases h : b ≤ a <;> simp [h]
end Go.Proofs.Ytmkgkinhbahlmaa.Q
end

section
namespace Go.Proofs.Ytmkgkinhbahlmaa.Q
open Go.RowKit Go.Proofs.YtmkgkinhbahlmaaW.PrintWords Go.Proofs.YtmkgkinhbahlmaaW.PrintLast
set_option linter.unusedVariables false
def cvEvent (x : S142) : S140 := ⟨x.f0, x.f1, x.f2⟩
theorem toEventS_ev (l : List S142) (h : l.length ≤ 1048576) : Ev (fun k => laws_toEventS.f k l) (l.map cvEvent) := by
  refine Ev.congr (f := fun k => laws_toEventS.l0 k l (List.replicate l.length z140) 0) (fun k => ?_) ?_
  · unfold laws_toEventS.f
    rw [if_pos (by omega), if_pos (by omega)]
    rfl
  · exact ev_map_loop (L := laws_toEventS.l0) (g := fun _ x => some (cvEvent x)) (z := z142) (fun _ _ _ _ => rfl) l (by omega) (fun x _ => Ev.now _) _ (by simp)
theorem eqEvent_refl (x : S140) : laws_eqEvent.f x.f0 x.f1 x.f2 x.f0 x.f1 x.f2 = some true := by
  unfold laws_eqEvent.f
  simp
theorem eqEventS_ev (l : List S140) (h : l.length ≤ 1048576) : Ev (fun k => laws_eqEventS.f k l l) true := by
  refine Ev.congr (f := fun k => laws_eqEventS.l0 k l l 0) (fun k => ?_) ?_
  · unfold laws_eqEventS.f
    rw [if_pos rfl]
  · exact ev_refl_loop (L := laws_eqEventS.l0) (g := fun _ x y => laws_eqEvent.f x.f0 x.f1 x.f2 y.f0 y.f1 y.f2) (z := z140) (fun _ _ _ _ => rfl) l (by omega) (fun x _ => Ev.congr (fun _ => eqEvent_refl x) (Ev.now _))
theorem szEventS_ev (l : List S142) (hl : l.length ≤ 9223372036854775807) (hg : ∀ x, x ∈ l → good142 x) (left : Int) (h0 : 0 ≤ left) (h1 : left ≤ 1048576) :
    ∃ r, Ev (fun _ => laws_szEventS.f l left) r ∧ r ≤ left ∧ (0 ≤ r → l.length ≤ 1048576) := by
  have hw : wrap64 (left - (l.length : Int)) = left - (l.length : Int) := by unfold wrap64; omega
  by_cases hn : left - (l.length : Int) < 0
  · refine ⟨-1, Ev.congr (f := fun _ => some (-1)) (fun k => ?_) (Ev.now _), by omega, by omega⟩
    unfold laws_szEventS.f
    rw [hw, if_pos hn]
  · refine ⟨left - (l.length : Int), Ev.congr (f := fun _ => some (left - (l.length : Int))) (fun k => ?_) (Ev.now _), by omega, by omega⟩
    unfold laws_szEventS.f
    rw [hw, if_neg hn]
end Go.Proofs.Ytmkgkinhbahlmaa.Q
end

section
namespace Go.Proofs.Ytmkgkinhbahlmaa.Q
open Go.RowKit Go.Proofs.YtmkgkinhbahlmaaW.PrintWords Go.Proofs.YtmkgkinhbahlmaaW.PrintLast
set_option linter.unusedVariables false
set_option linter.unusedSimpArgs false
theorem szWatch_ev (n : ByteArray) (s : Int) (l : List S142) (g : good53 ⟨n, s, l⟩) (left : Int) (h0 : 0 ≤ left) (h1 : left ≤ 1048576) :
    ∃ r, Ev (fun _ => laws_szWatch.f n s l left) r ∧ r ≤ left ∧ (0 ≤ r → l.length ≤ 1048576) := by
  have hsz : n.size ≤ 9223372036854775807 := g.1
  have hw : wrap64 (left - (n.size : Int)) = left - (n.size : Int) := by unfold wrap64; omega
  by_cases h2 : left - (n.size : Int) < 0
  · refine ⟨-1, Ev.pure_ ?_, by omega, by omega⟩
    unfold laws_szWatch.f
    rw [hw, if_pos h2]
  · obtain ⟨r, hr, hrl, hrs⟩ := szEventS_ev l g.2.2.1 g.2.2.2 (left - (n.size : Int)) (by omega) (by omega)
    by_cases h3 : r < 0
    · refine ⟨-1, ?_, by omega, by omega⟩
      unfold laws_szWatch.f
      rw [hw]
      simp only [h2, if_false]
      refine Ev.bind hr ?_
      simp only [h3, if_true]
      exact Ev.now _
    · refine ⟨r, ?_, by omega, hrs⟩
      unfold laws_szWatch.f
      rw [hw]
      simp only [h2, if_false]
      refine Ev.bind hr ?_
      simp only [h3, if_false]
      exact Ev.now _
theorem toWatch_ev (n : ByteArray) (s : Int) (l : List S142) (h : l.length ≤ 1048576) : Ev (fun k => laws_toWatch.f k n s l) (n, s, l.map cvEvent) := by
  unfold laws_toWatch.f
  exact Ev.bind (toEventS_ev l h) (Ev.now _)
theorem eqWatch_ev (n : ByteArray) (s : Int) (l : List S140) (h : l.length ≤ 1048576) : Ev (fun k => laws_eqWatch.f k n s l n s l) true := by
  unfold laws_eqWatch.f
  simp only [if_true]
  refine Ev.bind (eqEventS_ev l h) ?_
  simp only [if_true]
  exact Ev.now _
def watchB (n : ByteArray) (s : Int) (l : List S140) : Bool :=
  nameB n && (inB s 0 1000000 && (decide (l.length ≤ 4) && (eventsB l && (l.length == 0 || (decide ((rd_T140 l ((l.length : Int) - 1)).f0 = s) && (l.drop 1).all (fun x => !x.f2))))))
theorem watchOK_ev (n : ByteArray) (s : Int) (l : List S140) : Ev (fun k => impl_WatchOK.f k n s l) (watchB n s l) := by
  unfold impl_WatchOK.f watchB
  simp only [impl_NameOK.f, within_ev, Option.bind_some]
  cases h1 : nameB n with
  | false => simp only [Bool.false_eq_true, if_false, Bool.false_and]; exact Ev.now _
  | true =>
    cases h2 : inB s 0 1000000 with
    | false => simp only [Bool.false_eq_true, if_false, if_true, Bool.false_and, Bool.true_and]; exact Ev.now _
    | true =>
      simp only [if_true, Bool.true_and]
      by_cases h3 : l.length ≤ 4
      · have c3 : ¬ ((l.length : Int) > 4) := by omega
        simp only [c3, if_false, decide_eq_true h3, Bool.true_and]
        have he := eventsOK_ev l (by omega)
        rw [decide_eq_true (show (l.length : Int) ≤ 4096 by omega), Bool.and_true] at he
        refine Ev.bind he ?_
        cases h4 : eventsB l with
        | false => simp only [Bool.false_eq_true, if_false, Bool.false_and]; exact Ev.now _
        | true =>
          simp only [if_true, Bool.true_and]
          by_cases h5 : l.length = 0
          · have c5 : (l.length : Int) = 0 := by omega
            simp only [c5, if_true, h5, beq_self_eq_true, Bool.true_or]
            exact Ev.now _
          · have c5 : ¬ (l.length : Int) = 0 := by omega
            have w1 := wrap_1 (i := (l.length : Int)) (by omega) (by omega)
            have c6 : (0 : Int) ≤ (l.length : Int) - 1 := by omega
            have c7 : (l.length : Int) - 1 < (l.length : Int) := by omega
            have c8 : (1 : Int) ≤ (l.length : Int) := by omega
            have z : (l.length == 0) = false := by rw [beq_eq_false_iff_ne]; exact h5
            simp only [c5, if_false, w1, c6, c7, c8, if_true, z, Bool.false_or, areAllEvent_calm.f, Option.bind_some]
            by_cases h6 : (rd_T140 l ((l.length : Int) - 1)).f0 = s
            · simp only [h6, if_true, decide_true, Bool.true_and]
              exact Ev.now _
            · simp only [h6, if_false, decide_false, Bool.false_and]
              exact Ev.now _
      · have c3 : (l.length : Int) > 4 := by omega
        simp only [c3, if_true, decide_eq_false h3, Bool.false_and]
        exact Ev.now _
theorem rdEvent {l : List S140} {i : Nat} (h : i < l.length) : rd_T140 l (i : Int) = l[i] := by
  simp [rd_T140, List.getD_eq_getElem?_getD, List.getElem?_eq_getElem h]
theorem l06OK_l0 (n : ByteArray) (s : Int) (l : List S140) (hl : l.length ≤ 4) : Ev (fun k => spec_l06OK.l0 k (l.length : Int) 1 n s l) ((l.drop 1).all (fun x => !x.f2)) := by
  match l, hl with
  | [], _ => exact Ev.at_ (c := 1) (fun k => by simp [spec_l06OK.l0])
  | x :: r, hl =>
    have e : ((x :: r).drop 1).all (fun x => !x.f2) = (allR (fun j => j == 0 || !(rd_T140 (x :: r) (j : Int)).f2) (x :: r).length && true) := by
      rw [Bool.and_true, Bool.eq_iff_iff, allR_iff]
      simp only [List.drop_succ_cons, List.drop_zero, List.all_eq_true]
      constructor
      · intro h j hj
        cases j with
        | zero => rfl
        | succ j =>
          rw [rdEvent hj]
          have := h (r[j]'(by simpa using hj)) (List.getElem_mem _)
          simpa using this
      · intro h y hy
        obtain ⟨j, hj, rfl⟩ := List.mem_iff_getElem.mp hy
        have := h (j + 1) (by simpa using hj)
        rw [rdEvent (by simpa using hj)] at this
        simpa using this
    rw [e]
    refine ev_all_loop2 (L := fun k i => spec_l06OK.l0 k ((x :: r).length : Int) i n s (x :: r)) 1 ?_ ?_ ?_ (by simp) (fun j hj => by
      obtain rfl : j = 0 := by omega
      rfl)
    · intro i h0 hi _ hp r' hr
      have c1 : (i : Int) < ((x :: r).length : Int) := by omega
      have z : (i == 0) = false := by simp; omega
      have h2 : (rd_T140 (x :: r) (i : Int)).f2 = false := by simpa [z] using hp
      refine Ev.step (fun k => ?_) hr
      simp only [spec_l06OK.l0, c1, Int.natCast_nonneg, if_true, h2, Bool.false_eq_true, if_false, wrap_i (show i < 4611686018427387904 by omega)]
    · intro i h0 hi _ hp
      have c1 : (i : Int) < ((x :: r).length : Int) := by omega
      have h2 : (rd_T140 (x :: r) (i : Int)).f2 = true := by
        simp only [Bool.or_eq_false_iff, Bool.not_eq_false'] at hp
        exact hp.2
      refine Ev.at_ (c := 1) (fun k => ?_)
      simp only [spec_l06OK.l0, c1, Int.natCast_nonneg, if_true, h2]
    · refine Ev.at_ (c := 1) (fun k => ?_)
      simp only [spec_l06OK.l0]
      rw [if_neg (by omega)]
theorem l06OK_ev (n : ByteArray) (s : Int) (l : List S140) : Ev (fun k => spec_l06OK.f k n s l) (watchB n s l) := by
  unfold spec_l06OK.f watchB
  refine Ev.bind (l00Word_ev n) ?_
  have hj : Ev (fun k => spec_l06OK.j0 k (l.length : Int) true n s l) false := Ev.at_ (c := 1) (fun k => by simp only [spec_l06OK.j0, if_true])
  cases h1 : nameB n with
  | false => simp only [Bool.false_eq_true, if_false, Bool.false_and]; exact hj
  | true =>
    simp only [if_true, Bool.true_and, l01In_is, Option.bind_some]
    cases h2 : inB s 0 1000000 with
    | false => simp only [Bool.false_eq_true, if_false, Bool.false_and]; exact hj
    | true =>
      simp only [if_true, Bool.true_and]
      by_cases h3 : l.length ≤ 4
      · have c3 : ¬ ((l.length : Int) > 4) := by omega
        simp only [c3, if_false, decide_eq_true h3, Bool.true_and, spec_l06Events.f, Option.bind_some]
        cases h4 : eventsB l with
        | false => simp only [Bool.false_eq_true, if_false, Bool.false_and]; exact hj
        | true =>
          simp only [if_true, Bool.true_and]
          have h0 := l06OK_l0 n s l h3
          have hj2 : Ev (fun k => spec_l06OK.j0 k (l.length : Int) false n s l) ((l.drop 1).all (fun x => !x.f2)) := Ev.step (fun k => by simp only [spec_l06OK.j0, Bool.false_eq_true, if_false]) h0
          by_cases h5 : l.length = 0
          · have c5 : ¬ (l.length : Int) > 0 := by omega
            have e0 : l = [] := List.eq_nil_of_length_eq_zero h5
            simp only [c5, if_false, h5, beq_self_eq_true, Bool.true_or]
            rw [e0] at hj2 ⊢
            exact hj2
          · have c5 : (l.length : Int) > 0 := by omega
            have w1 := wrap_1 (i := (l.length : Int)) (by omega) (by omega)
            have c6 : (0 : Int) ≤ (l.length : Int) - 1 := by omega
            have c7 : (l.length : Int) - 1 < (l.length : Int) := by omega
            have z : (l.length == 0) = false := by rw [beq_eq_false_iff_ne]; exact h5
            simp only [c5, w1, c6, c7, if_true, z, Bool.false_or]
            by_cases h6 : (rd_T140 l ((l.length : Int) - 1)).f0 = s
            · simp only [h6, bne_self_eq_false, decide_true, Bool.true_and]
              exact hj2
            · have h7 : ((rd_T140 l ((l.length : Int) - 1)).f0 != s) = true := bne_iff_ne.mpr h6
              simp only [h7, h6, decide_false, Bool.false_and]
              exact hj
      · have c3 : (l.length : Int) > 4 := by omega
        simp only [c3, if_true, decide_eq_false h3, Bool.false_and]
        exact hj
end Go.Proofs.Ytmkgkinhbahlmaa.Q
end

section
namespace Go.Proofs.Ytmkgkinhbahlmaa.Q
open Go.RowKit Go.Proofs.YtmkgkinhbahlmaaW.PrintWords Go.Proofs.YtmkgkinhbahlmaaW.PrintLast Go.Proofs.YtmkgkinhbahlmaaW.PrintMore
attribute [local go_sem] max2_int min2_int max_two min_two max_three min_three max_four min_four   -- for this text's walks alone
set_option linter.unusedVariables false
set_option linter.unusedSimpArgs false
attribute [local go_sem] bin_leq bin_gtr bin_geq
def laws_markText.l0 : Nat → Int → ByteArray → Option (ByteArray)
  | 0, _, _ => none
  | k + 1, x0, x3 => if x0 > 0 then ((some (([(wrap64 (48 + (Int.tmod x0 10))) % 256] : List Int) : List Int)).bind fun y558 => (if (strOfNums y558).size + x3.size ≤ 9223372036854775807 then (laws_markText.l0 k (wrap64 (Int.tdiv x0 10)) ((strOfNums y558) ++ x3)) else (none))) else (if 1 + x3.size ≤ 9223372036854775807 then (some ((⟨#[109]⟩ : ByteArray) ++ x3)) else (none))
def laws_markText.f (k : Nat) (a0 : Int) : Option (ByteArray) := if a0 ≤ 0 then (some (⟨#[109, 48]⟩ : ByteArray)) else (laws_markText.l0 k a0 (⟨#[]⟩ : ByteArray))
end Go.Proofs.Ytmkgkinhbahlmaa.Q
end

section
namespace Go.Proofs.Ytmkgkinhbahlmaa.Q
open Go.RowKit Go.Proofs.YtmkgkinhbahlmaaW.PrintWords Go.Proofs.YtmkgkinhbahlmaaW.PrintLast
set_option linter.unusedVariables false
set_option linter.unusedSimpArgs false
theorem markText_l0 : ∀ (d : Nat) (n : Int) (s : ByteArray), 0 ≤ n → n ≤ 9223372036854775807 → n < 10 ^ d → s.size + d ≤ 1000 → ∃ r, Ev (fun k => laws_markText.l0 k n s) r := by
  intro d
  induction d with
  | zero =>
    intro n s h0 hn9 h1 hs
    have hn : ¬ n > 0 := by simp at h1; omega
    have hz : 1 + s.size ≤ 9223372036854775807 := by omega
    exact ⟨_, Ev.at_ (c := 1) (fun k => by simp only [laws_markText.l0, hn, if_false, hz, if_true]; rfl)⟩
  | succ d ih =>
    intro n s h0 hn9 h1 hs
    by_cases hn : n > 0
    · have e1 : Int.tdiv n 10 = n / 10 := Int.tdiv_eq_ediv_of_nonneg h0
      have h2 : n / 10 < 10 ^ d := by
        rw [Int.pow_succ] at h1
        omega
      have hw : wrap64 (n / 10) = n / 10 := by unfold wrap64; omega
      have hz : (strOfNums [(wrap64 (48 + (Int.tmod n 10))) % 256]).size = 1 := rfl
      have hz2 : 1 + s.size ≤ 9223372036854775807 := by omega
      obtain ⟨r, hr⟩ := ih (n / 10) (strOfNums [(wrap64 (48 + (Int.tmod n 10))) % 256] ++ s) (by omega) (by omega) h2 (by rw [ByteArray.size_append, hz]; omega)
      refine ⟨r, Ev.step (fun k => ?_) hr⟩
      simp only [laws_markText.l0, hn, if_true, Option.bind_some, hz, hz2, e1, hw]
    · have hz : 1 + s.size ≤ 9223372036854775807 := by omega
      exact ⟨_, Ev.at_ (c := 1) (fun k => by simp only [laws_markText.l0, hn, if_false, hz, if_true]; rfl)⟩
theorem markTexts : ∃ mt : Int → ByteArray, ∀ n, 0 ≤ n → n ≤ 1000000000 → Ev (fun k => laws_markText.f k n) (mt n) := by
  have h : ∀ n : Int, ∃ s, 0 ≤ n → n ≤ 1000000000 → Ev (fun k => laws_markText.f k n) s := by
    intro n
    by_cases h0 : 0 ≤ n ∧ n ≤ 1000000000
    · by_cases h1 : n ≤ 0
      · exact ⟨_, fun _ _ => Ev.at_ (c := 0) (fun k => by unfold laws_markText.f; rw [if_pos h1])⟩
      · obtain ⟨s, hs⟩ := markText_l0 10 n (⟨#[]⟩ : ByteArray) h0.1 (by omega) (by omega) (by decide)
        exact ⟨s, fun _ _ => Ev.congr (fun k => by unfold laws_markText.f; rw [if_neg h1]) hs⟩
    · exact ⟨ByteArray.empty, fun a b => absurd ⟨a, b⟩ h0⟩
  exact ⟨fun n => Classical.choose (h n), fun n => Classical.choose_spec (h n)⟩
theorem ev_mark_loop {α : Type} {L : Nat → List α → Int → Int → Option (Int × List α)} {H : Nat → List α → Int → Int → Option Int} {mk : α → Int → α} {c : Int} (hc : 0 ≤ c)
    (stepL : ∀ (l : List α) (m : Int) (i : Nat) (hi : i < l.length), l.length ≤ 1048576 → 0 ≤ m → m ≤ 900000000 → ∀ r, Ev (fun k => L k (l.set i (mk l[i] m)) (m + c) ((i + 1 : Nat) : Int)) r → Ev (fun k => L k l m (i : Int)) r)
    (stepH : ∀ (l : List α) (m : Int) (i : Nat) (hi : i < l.length) (y : α), l[i] = mk y m → l.length ≤ 1048576 → 0 ≤ m → m ≤ 900000000 → ∀ r, Ev (fun k => H k l (m + c) ((i + 1 : Nat) : Int)) r → Ev (fun k => H k l m (i : Int)) r)
    (doneL : ∀ (l : List α) (m : Int) k, L (k + 1) l m (l.length : Int) = some (m, l)) (doneH : ∀ (l : List α) (m : Int) k, H (k + 1) l m (l.length : Int) = some m)
    (l : List α) (m : Int) (hl : l.length ≤ 1048576) (h0 : 0 ≤ m) (hm : m + c * l.length ≤ 900000000) :
    ∃ l', l'.length = l.length ∧ Ev (fun k => L k l m 0) (m + c * l.length, l') ∧ Ev (fun k => H k l' m 0) (m + c * l.length) := by
  have key : ∀ (d i : Nat) (l : List α) (m : Int), i + d = l.length → l.length ≤ 1048576 → 0 ≤ m → m + c * d ≤ 900000000 →
      ∃ l', l'.length = l.length ∧ l'.take i = l.take i ∧ Ev (fun k => L k l m (i : Int)) (m + c * d, l') ∧ Ev (fun k => H k l' m (i : Int)) (m + c * d) := by
    intro d
    induction d with
    | zero =>
      intro i l m hi hl h0 hm
      obtain rfl : i = l.length := by omega
      refine ⟨l, rfl, rfl, ?_, ?_⟩
      · simp only [Int.natCast_zero, Int.mul_zero, Int.add_zero]
        exact Ev.at_ (c := 1) (doneL l m)
      · simp only [Int.natCast_zero, Int.mul_zero, Int.add_zero]
        exact Ev.at_ (c := 1) (doneH l m)
    | succ d ih =>
      intro i l m hi hl h0 hm
      have hil : i < l.length := by omega
      have e : m + c + c * (d : Int) = m + c * ((d + 1 : Nat) : Int) := by
        rw [Int.natCast_add, Int.natCast_one, Int.mul_add, Int.mul_one]
        omega
      have hcd : 0 ≤ c * (d : Int) := Int.mul_nonneg hc (Int.natCast_nonneg d)
      obtain ⟨l', hl', ht, hL, hH⟩ := ih (i + 1) (l.set i (mk l[i] m)) (m + c) (by rw [List.length_set]; omega) (by rw [List.length_set]; omega) (by omega) (by omega)
      rw [List.length_set] at hl'
      rw [e] at hL hH
      have hg : l'[i]'(by omega) = mk l[i] m := by
        have h1 : (l'.take (i + 1))[i]'(by rw [List.length_take]; omega) = ((l.set i (mk l[i] m)).take (i + 1))[i]'(by rw [List.length_take, List.length_set]; omega) := by simp only [ht]
        simpa using h1
      refine ⟨l', hl', ?_, stepL l m i hil hl h0 (by omega) _ hL, stepH l' m i (by omega) l[i] hg (by omega) h0 (by omega) _ hH⟩
      have h2 := congrArg (List.take i) ht
      rw [List.take_take, List.take_take, Nat.min_eq_left (by omega)] at h2
      rw [h2, List.take_set_of_le (Nat.le_refl _)]
  obtain ⟨l', h1, _, h3, h4⟩ := key l.length 0 l m (by omega) hl h0 hm
  exact ⟨l', h1, h3, h4⟩
end Go.Proofs.Ytmkgkinhbahlmaa.Q
end

section
namespace Go.Proofs.Ytmkgkinhbahlmaa.Q
open Go.RowKit Go.Proofs.YtmkgkinhbahlmaaW.PrintWords Go.Proofs.YtmkgkinhbahlmaaW.PrintLast
set_option linter.unusedVariables false
set_option linter.unusedSimpArgs false
theorem markEventS_ev (l : List S140) (m : Int) (hl : l.length ≤ 1048576) (h0 : 0 ≤ m) (hm : m + 3 * l.length ≤ 900000000) :
    ∃ l', l'.length = l.length ∧ Ev (fun k => laws_markEventS.f k l m) (m + 3 * l.length, l') ∧ Ev (fun k => laws_heldEventS.f k l' m) (m + 3 * l.length) := by
  obtain ⟨mt, hmt⟩ := markTexts
  have rd0 : ∀ (l : List S140) (i : Nat) (h : i < l.length), rd_T140 l (i : Int) = l[i] := fun l i h => by simp [rd_T140, List.getD_eq_getElem?_getD, List.getElem?_eq_getElem h]
  have rd1 : ∀ (l : List S140) (i : Nat) (v : S140) (h : i < l.length), rd_T140 (l.set i v) (i : Int) = v := fun l i v h => by rw [rd0 _ _ (by rw [List.length_set]; exact h)]; simp
  refine ev_mark_loop (L := laws_markEventS.l0) (H := laws_heldEventS.l0) (mk := fun x m => ⟨m, m + 1, (Int.tmod (m + 2) 3 == 0)⟩) (c := 3) (by omega) ?_ ?_ ?_ ?_ l m hl h0 hm
  · intro l m i hi hl h0 hm r hr
    have c1 : (i : Int) < (l.length : Int) := by omega
    have w := wrap_i (show i < 4611686018427387904 by omega)
    have w1 : wrap64 (m + 1) = m + 1 := by unfold wrap64; omega
    have w2 : wrap64 (m + 1 + 1) = m + 2 := by unfold wrap64; omega
    have w3 : wrap64 (m + 2 + 1) = m + 3 := by unfold wrap64; omega
    refine Ev.succ (g := fun k => laws_markEventS.l0 k l m (i : Int)) ?_
    simp only [laws_markEventS.l0, c1, if_true, Int.natCast_nonneg, Option.bind_some, Int.toNat_natCast, rd0 l i hi, rd1 l i _ hi, List.set_set, w, w1, w2, w3]
    exact hr
  · intro l m i hi y hy hl h0 hm r hr
    have c1 : (i : Int) < (l.length : Int) := by omega
    have w := wrap_i (show i < 4611686018427387904 by omega)
    have w1 : wrap64 (m + 1) = m + 1 := by unfold wrap64; omega
    have w2 : wrap64 (m + 1 + 1) = m + 2 := by unfold wrap64; omega
    have w3 : wrap64 (m + 2 + 1) = m + 3 := by unfold wrap64; omega
    refine Ev.succ (g := fun k => laws_heldEventS.l0 k l m (i : Int)) ?_
    simp only [laws_heldEventS.l0, c1, if_true, Int.natCast_nonneg, rd0 l i hi, hy, w, w1, w2, w3, bne_self_eq_false, Bool.false_eq_true, if_false]
    exact hr
  · intro l m k
    simp only [laws_markEventS.l0]
    rw [if_neg (by omega)]
  · intro l m k
    simp only [laws_heldEventS.l0]
    rw [if_neg (by omega)]
end Go.Proofs.Ytmkgkinhbahlmaa.Q
end

section
namespace Go.Proofs.Ytmkgkinhbahlmaa.Pure
open Go.RowKit Go.Proofs.Ytmkgkinhbahlmaa.Q Go.Proofs.YtmkgkinhbahlmaaW.PrintWords Go.Proofs.YtmkgkinhbahlmaaW.PrintLast
set_option linter.unusedVariables false
set_option linter.unusedSimpArgs false
theorem drain_both (n : ByteArray) (s : Int) (l : List S140) (hl : l.length ≤ 1048576) :
    ∃ n' s' l' q c, Ev (fun k => spec_DrainWatch.f k n s l) (n', s', l', q, c) ∧ Ev (fun k => impl_DrainWatch.f k n s l) (n', s', l', q, c) ∧ l'.length ≤ 1048576 ∧ q.length ≤ 1048576 := by
  cases h : watchB n s l with
  | false =>
    refine ⟨(⟨#[]⟩ : ByteArray), 0, [], [], 1, ?_, ?_, by simp, by simp⟩
    · have hw := l06OK_ev n s l
      rw [h] at hw
      unfold spec_DrainWatch.f
      refine Ev.bind hw ?_
      simp only [Bool.false_eq_true, if_false]
      exact Ev.now _
    · have hw := watchOK_ev n s l
      rw [h] at hw
      unfold impl_DrainWatch.f
      refine Ev.bind hw ?_
      simp only [Bool.false_eq_true, if_false]
      exact Ev.now _
  | true =>
    refine ⟨n, s, [], l, 0, ?_, ?_, by simp, hl⟩
    · have hw := l06OK_ev n s l
      rw [h] at hw
      unfold spec_DrainWatch.f
      refine Ev.bind hw ?_
      simp only [if_true, Option.bind_some, List.length_nil, Nat.zero_add, (show l.length < 5864062014805 by omega), List.nil_append]
      exact Ev.now _
    · have hw := watchOK_ev n s l
      rw [h] at hw
      unfold impl_DrainWatch.f
      refine Ev.bind hw ?_
      simp only [if_true, impl_Event_154.f, Option.bind_some, (show l.length < 5864062014805 by omega)]
      exact Ev.now _
theorem FnExactDrainWatch : laws_FnExactDrainWatch.Pure := by
  intro n s l g
  refine Ev.rounds ?_
  unfold laws_FnExactDrainWatch.f
  obtain ⟨r, hr, hrl, hrs⟩ := szWatch_ev n s l g 1048576 (by omega) (by omega)
  refine Ev.bind hr ?_
  by_cases hn : r < 0
  · simp only [hn, if_true]
    exact Ev.now _
  simp only [hn, if_false]
  have hl := hrs (by omega)
  have ht := toWatch_ev n s l hl
  have hl2 : (l.map cvEvent).length ≤ 1048576 := by simpa using hl
  obtain ⟨n', s', l', q, c, hs, hi, hl', hq⟩ := drain_both n s (l.map cvEvent) hl2
  refine Ev.bind ht (Ev.bind hs (Ev.bind ht (Ev.bind hi (Ev.bind (eqWatch_ev n' s' l' hl') ?_))))
  simp only [if_true, bne_self_eq_false]
  refine Ev.bind (eqEventS_ev q hq) ?_
  simp only [if_true]
  refine Ev.succ ?_
  simp only [laws_FnExactDrainWatch.j0, Bool.false_eq_true, if_false]
  refine Ev.bind ht (Ev.bind (eqWatch_ev _ _ _ hl2) ?_)
  simp only [if_true]
  obtain ⟨la, _, hmA, _⟩ := markEventS_ev (l.map cvEvent) 1 hl2 (by omega) (by omega)
  have hmA' : Ev (fun k => laws_markWatch.f k n s (l.map cvEvent) 1) (1 + 3 * ((l.map cvEvent).length : Int), la) := by
    unfold laws_markWatch.f
    exact Ev.bind hmA (Ev.now _)
  refine Ev.bind hmA' ?_
  have n1 : ¬ (1 + 3 * ((l.map cvEvent).length : Int) < 0) := by omega
  simp only [n1, if_false]
  refine Ev.bind (eqWatch_ev n' s' l' hl') ?_
  simp only [if_true]
  refine Ev.bind (eqEventS_ev q hq) ?_
  simp only [if_true, bne_self_eq_false]
  refine Ev.succ ?_
  simp only [laws_FnExactDrainWatch.j1, Bool.false_eq_true, if_false]
  obtain ⟨lw, _, hmW, hhW⟩ := markEventS_ev l' 1 hl' (by omega) (by omega)
  obtain ⟨lq, _, hmQ, hhQ⟩ := markEventS_ev q (1 + 3 * (l'.length : Int)) hq (by omega) (by omega)
  have hmW' : Ev (fun k => laws_markWatch.f k n' s' l' 1) (1 + 3 * (l'.length : Int), lw) := by
    unfold laws_markWatch.f
    exact Ev.bind hmW (Ev.now _)
  have n2 : ¬ (1 + 3 * (l'.length : Int) < 0) := by omega
  have n3 : ¬ (1 + 3 * (l'.length : Int) + 3 * (q.length : Int) < 0) := by omega
  have hhW' : Ev (fun k => laws_heldWatch.f k n' s' lw 1) (1 + 3 * (l'.length : Int)) := by
    unfold laws_heldWatch.f
    refine Ev.bind hhW ?_
    simp only [n2, if_false]
    exact Ev.now _
  refine Ev.bind hmW' (Ev.bind hmQ (Ev.bind hhW' ?_))
  simp only [n2, if_false]
  refine Ev.bind hhQ ?_
  simp only [n3, if_false, if_true]
  refine Ev.bind ht (Ev.bind hi (Ev.bind (eqWatch_ev n' s' l' hl') ?_))
  simp only [if_true, bne_self_eq_false]
  refine Ev.bind (eqEventS_ev q hq) ?_
  simp only [if_true]
  refine Ev.succ ?_
  simp only [laws_FnExactDrainWatch.j2, Bool.false_eq_true, if_false]
  refine Ev.bind hhW' ?_
  simp only [n2, if_false]
  refine Ev.bind hhQ ?_
  simp only [n3, if_false, if_true]
  exact Ev.now _
end Go.Proofs.Ytmkgkinhbahlmaa.Pure
end
