/- Parts of the proof of the law FnExactMergeEdits, joined into one text. -/
import Derived.Test.YtblejbgkcgajgaaMFnExactMergeEdits3
section
namespace Go.Proofs.Ytblejbgkcgajgaa.Q
open Go Go.RowKit Go.Proofs.YtblejbgkcgajgaaW.PrintWords Go.Proofs.YtblejbgkcgajgaaW.PrintLast
set_option linter.unusedVariables false
set_option linter.unusedSimpArgs false
theorem setCells_setRow (g o : Nat) (t : TypeId) (vs : List Value) (cur : Array Value) (w : World) (hg : w.heap[g]? = some (.cells cur t (0, 0))) (hl : o + vs.length ≤ cur.size) :
    w.setCells g o vs = w.setRow g (cur.toList.take o ++ vs ++ cur.toList.drop (o + vs.length)).toArray := by
  induction vs generalizing o cur w with
  | nil =>
    simp only [World.setCells, List.append_nil, List.length_nil, Nat.add_zero, List.take_append_drop, Array.toArray_toList]
    rw [setRow_self w g cur t (0, 0) hg]
  | cons v rest ih =>
    have hi : o < cur.size := by simp at hl; omega
    rw [World.setCells, setCell_eq_setRow w g o cur t (0, 0) v hg, ih (o + 1) (cur.setIfInBounds o v) _ (setRow_heap w g cur _ t _ hg) (by simp at hl ⊢; omega), setRow_setRow]
    congr 2
    have e := list_seg_step cur.toList o v rest (by simp at hl ⊢; omega)
    simpa [Array.toList_setIfInBounds, Nat.add_assoc] using e
theorem run_clear_rowk {P : Program} (w : World) (t e ty : TypeId) (z : Value) (n : Nat) (ht : P.underlying t = some (.slice e)) (hv : ∀ w, (zeroValue e).run P w = .ok z w) (h1 : ∀ u ∈ (Builtin.zeroCells z.cells n).toList, u.oneCell' = true) (g o c : Nat) (cur : Array Value) (te : TypeId) (hn : 0 < n)
    (hg : w.heap[g]? = some (.cells cur te (0, 0))) (hl : o + (Builtin.zeroCells z.cells n).toList.length ≤ cur.size) :
    (Builtin.clear_ #[t] ty #[.slice (some ⟨g, o, none⟩) n c]).run P w = .ok (.tuple #[]) (w.setRow g (cur.toList.take o ++ (Builtin.zeroCells z.cells n).toList ++ cur.toList.drop (o + (Builtin.zeroCells z.cells n).toList.length)).toArray) := by
  have hst := run_storeCells_at P g o te (Builtin.zeroCells z.cells n).toList 0 cur w hg (by simpa using hl) h1
  simp only [Nat.add_zero] at hst
  obtain ⟨m, rfl⟩ : ∃ m, n = m + 1 := ⟨n - 1, by omega⟩
  simp [Builtin.clear_, run_underlying ht, hv, hst]
theorem run_copy_rowk {P : Program} (w : World) (dT sT ty elem : TypeId) (sz g o dLen dCap : Nat) (a : Addr) (sLen sCap m : Nat) (cur : Array Value) (t : TypeId) (cs : List Value)
    (hu : P.underlying dT = some (.slice elem)) (hs : (P.info? elem).map (·.size) = some sz)
    (hg : w.heap[g]? = some (.cells cur t (0, 0))) (hm : Nat.min sLen dLen = m) (hn : cs.length = m * sz)
    (hsrc : ∀ j v, cs[j]? = some v → w.cell? (a.add j) = some v) (hfit : o + cs.length ≤ cur.size) (h1 : ∀ v ∈ cs, v.oneCell' = true) :
    (Builtin.copy_ #[dT, sT] ty #[.slice (some ⟨g, o, none⟩) dLen dCap, .slice (some a) sLen sCap]).run P w =
      .ok (goInt m) (w.setRow g (cur.toList.take o ++ cs ++ cur.toList.drop (o + cs.length)).toArray) := by
  have hl := run_loadCells_list (P := P) w a cs hsrc
  have hst := run_storeCells_at P g o t cs 0 cur w hg (by simpa using hfit) h1
  cases hq : P.info? elem with
  | none => simp [hq] at hs
  | some i =>
    have hi : i.size = sz := by simpa [hq] using hs
    simp [Builtin.copy_, run_underlying hu, Builtin.lenOf, Builtin.firstCells, sizeOf, typeInfo, hq, hi, hm, ← hn, hl, hst]
section
variable {α : Type} {enc : α → List Value} {k : Nat}
theorem flat_len (hk : ∀ x, (enc x).length = k) : ∀ xs : List α, (xs.flatMap enc).length = xs.length * k
  | [] => by simp
  | x :: xs => by rw [List.flatMap_cons, List.length_append, hk, flat_len hk xs, List.length_cons, Nat.add_mul]; omega
theorem flat_take (hk : ∀ x, (enc x).length = k) : ∀ (xs : List α) (i : Nat), (xs.flatMap enc).take (i * k) = (xs.take i).flatMap enc
  | xs, 0 => by simp
  | [], i + 1 => by simp
  | x :: xs, i + 1 => by
    have e : (i + 1) * k = k + i * k := by rw [Nat.add_mul]; omega
    rw [List.flatMap_cons, List.take_succ_cons, List.flatMap_cons, ← flat_take hk xs i, e, List.take_append, hk]
    rw [List.take_of_length_le (by rw [hk]; omega), Nat.add_sub_cancel_left]
theorem flat_drop (hk : ∀ x, (enc x).length = k) : ∀ (xs : List α) (i : Nat), (xs.flatMap enc).drop (i * k) = (xs.drop i).flatMap enc
  | xs, 0 => by simp
  | [], i + 1 => by simp
  | x :: xs, i + 1 => by
    have e : (i + 1) * k = k + i * k := by rw [Nat.add_mul]; omega
    rw [List.flatMap_cons, List.drop_succ_cons, ← flat_drop hk xs i, e, List.drop_append, hk]
    rw [List.drop_eq_nil_of_le (by rw [hk]; omega), List.nil_append, Nat.add_sub_cancel_left]
theorem reps_flat (hk : ∀ x, (enc x).length = k) {xs : List α} {cs : List Value} (h : Reps (fun x c => c = enc x) k xs cs) : cs = xs.flatMap enc := by
  obtain ⟨hl, hr⟩ := h
  induction xs generalizing cs with
  | nil =>
    rw [List.length_nil, Nat.zero_mul] at hl
    rw [List.eq_nil_of_length_eq_zero hl]
    rfl
  | cons x xs ih =>
    have h0 := hr 0 x rfl
    rw [Nat.zero_mul, List.drop_zero] at h0
    have e : cs = cs.take k ++ cs.drop k := (List.take_append_drop k cs).symm
    rw [List.length_cons, Nat.add_mul, Nat.one_mul] at hl
    have h2 := ih (cs := cs.drop k) (by rw [List.length_drop, hl]; omega) (fun j p hj => by
      have h3 := hr (j + 1) p (by simpa using hj)
      rw [List.drop_drop]
      have e2 : k + j * k = (j + 1) * k := by rw [Nat.add_mul]; omega
      rw [e2]
      exact h3)
    rw [e, h0, h2, List.flatMap_cons]
theorem flat_reps (hk : ∀ x, (enc x).length = k) (xs : List α) : Reps (fun x c => c = enc x) k xs (xs.flatMap enc) := by
  refine ⟨flat_len hk xs, fun j p hj => ?_⟩
  obtain ⟨hj2, rfl⟩ := List.getElem?_eq_some_iff.mp hj
  rw [flat_drop hk, List.drop_eq_getElem_cons hj2, List.flatMap_cons, List.take_append, hk]
  rw [List.take_of_length_le (by rw [hk]; omega), Nat.sub_self, List.take_zero, List.append_nil]
variable {d : Kd α} {e base : Nat} {ok : Nat → Prop} {w : World} {v : Value} {xs : List α}
theorem flatR_open (hM : ∀ {w base ok x cs}, d.M w base ok x cs ↔ cs = enc x) (hk : ∀ x, (enc x).length = k) (hsz : d.sz = k) (h : Kd.R d e w base ok v xs) (hp : 0 < xs.length) :
    ∃ g cap cur, v = .slice (some ⟨g, 0, none⟩) xs.length cap ∧ base ≤ g ∧ ok g ∧ w.heap[g]? = some (.cells cur e (0, 0)) ∧ xs.length ≤ cap ∧ cap ≤ maxLen ∧ cur.size = cap * k ∧ cur.toList.take (xs.length * k) = xs.flatMap enc := by
  obtain ⟨h0, inner, ⟨hl, ho⟩, hr⟩ := h
  have e1 := reps_flat (k := d.sz) (fun x => (hk x).trans hsz.symm) (hr.imp_ (fun _ _ hp => hM.mp hp))
  rcases ho with ⟨rfl, hz⟩ | ⟨g, cap, cur, rfl, hb, hg, hn, hm, hs, ht⟩
  · omega
  · subst hsz
    exact ⟨g, cap, cur, rfl, hb, h0 g rfl, hg, hn, hm, hs, ht.trans e1⟩
theorem flatR_mk (hM : ∀ {w base ok x cs}, d.M w base ok x cs ↔ cs = enc x) (hk : ∀ x, (enc x).length = k) (hsz : d.sz = k) {g cap n : Nat} {cur : Array Value} (hn0 : n = xs.length) (hb : base ≤ g) (hok : ok g) (hg : w.heap[g]? = some (.cells cur e (0, 0))) (hn : n ≤ cap) (hm : cap ≤ maxLen) (hs : cur.size = cap * k) (ht : cur.toList.take (n * k) = xs.flatMap enc) :
    Kd.R d e w base ok (.slice (some ⟨g, 0, none⟩) n cap) xs := by
  subst hsz
  subst hn0
  exact ⟨fun j hj => by have : g = j := by simpa [Value.ownBlock] using hj
                        exact this ▸ hok, xs.flatMap enc, ⟨flat_len hk xs, .inr ⟨g, cap, cur, rfl, hb, hg, hn, hm, hs, ht⟩⟩, (flat_reps hk xs).imp_ (fun _ _ h => hM.mpr h)⟩
end
theorem wI {a b c : Nat} (h : a + b = c) (hc : c < 10000000) : IntKind.i64.wrap ((a : Int) + (b : Int)) = (c : Int) ∧ wrap64 ((a : Int) + (b : Int)) = (c : Int) := by
  subst h
  rw [IntKind.wrap_i64]
  unfold wrap64
  omega
theorem wS {a b c : Nat} (h : a = b + c) (hc : a < 10000000) : IntKind.i64.wrap ((a : Int) - (b : Int)) = (c : Int) ∧ wrap64 ((a : Int) - (b : Int)) = (c : Int) := by
  subst h
  rw [IntKind.wrap_i64]
  unfold wrap64
  omega
theorem row_shift {γ : Type} {cur cs e : List γ} {a b : Nat} (hb : b = a + e.length) (hc : b + cs.length ≤ cur.length) :
    (cur.take b ++ cs ++ cur.drop (b + cs.length)).take a ++ e ++ (cur.take b ++ cs ++ cur.drop (b + cs.length)).drop (a + e.length) = cur.take a ++ e ++ cs ++ cur.drop (b + cs.length) := by
  have h1 : (cur.take b).length = b := by rw [List.length_take]; omega
  rw [List.append_assoc (cur.take b), List.take_append_of_le_length (by rw [h1]; omega), List.take_take, Nat.min_eq_left (by omega), ← hb, List.drop_append, List.drop_eq_nil_of_le (by rw [h1]; omega), h1, Nat.sub_self, List.drop_zero, List.nil_append]
  simp only [List.append_assoc]
theorem row_two {γ : Type} {cur cs e : List γ} {a b : Nat} (hb : b = a + e.length) (hc : b + cs.length ≤ cur.length) :
    ((cur.take a ++ e ++ cur.drop (a + e.length)).take b ++ cs ++ (cur.take a ++ e ++ cur.drop (a + e.length)).drop (b + cs.length)).take (b + cs.length) = cur.take a ++ e ++ cs := by
  have h1 : (cur.take a ++ e).length = b := by rw [List.length_append, List.length_take]; omega
  have h2 : (cur.take a ++ e ++ cur.drop (a + e.length)).take b = cur.take a ++ e := by
    rw [List.take_append_of_le_length (by rw [h1]; omega), List.take_of_length_le (by rw [h1]; omega)]
  rw [h2, List.take_append_of_le_length (by rw [List.length_append, h1]; omega), List.take_of_length_le (by rw [List.length_append, h1]; omega)]
theorem kept_setRow {w W : World} {S : Nat → Prop} (h : Kept w W S) {g : Nat} (hg : S g ∨ w.heap.size ≤ g) (cs : Array Value) : Kept w (W.setRow g cs) S :=
  h.then_ (S2 := fun k => k = g) ⟨by simp, fun i _ hn => setRow_other W g i cs hn⟩ (fun k hk => by rw [hk]; exact hg)
def encE (x : S55) : List Value := [.string x.f0, .int .i64 x.f1]
theorem encE_len (x : S55) : (encE x).length = 2 := rfl
theorem entM {w : World} {base : Nat} {ok : Nat → Prop} {x : S55} {cs : List Value} : k55.M w base ok x cs ↔ cs = encE x :=
  ⟨fun h => k55_openM h, fun h => by rw [h]; exact k55_mkM w base ok x⟩
theorem zc1 : (Builtin.zeroCells (Value.agg #[.string ⟨#[]⟩, .int .i64 0]).cells 1).toList = [.string ⟨#[]⟩, .int .i64 0] := by
  simp [Builtin.zeroCells, Value.cells]
  try rfl
theorem one_flat (xs : List S55) : ∀ u ∈ xs.flatMap encE, u.oneCell' = true := by
  intro u hu
  obtain ⟨x, _, hx⟩ := List.mem_flatMap.mp hu
  simp only [encE, List.mem_cons, List.mem_nil_iff, or_false] at hx
  rcases hx with rfl | rfl <;> rfl
end Go.Proofs.Ytblejbgkcgajgaa.Q
end

section
namespace Go.Proofs.Ytblejbgkcgajgaa.Q
open Go.RowKit Go.Proofs.YtblejbgkcgajgaaW.PrintWords Go.Proofs.YtblejbgkcgajgaaW.PrintLast Go.Proofs.YtblejbgkcgajgaaW.PrintMore
attribute [local go_sem] max2_int min2_int max_two min_two max_three min_three max_four min_four   -- for this text's walks alone
set_option linter.unusedVariables false
set_option linter.unusedSimpArgs false
attribute [local go_sem] bin_leq bin_gtr bin_geq
def impl_Entry_68.f (l0 : List S55) (a1 a2 : Int) : Option (List S55) := if 0 ≤ a1 then (if a2 = a1 + 1 then (if a1 < (l0.length : Int) then some (l0.take a1.toNat ++ l0.drop (a1.toNat + 1)) else none) else none) else none
set_option maxHeartbeats 8000000 in
set_option maxRecDepth 100000 in
theorem impl_Entry_68.calls (P0_ : Nat → Prop) (u9000_ : Value) (l0 : List (S55)) (a1 : Int) (a2 : Int) (r : List (S55)) (w0 w : World) (hB : Below w0.heap.size w0 w) (ho0 : Kd.R k55 55 w w0.heap.size P0_ u9000_ l0) (h : impl_Entry_68.f l0 a1 a2 = some r) :
    Calls Try.prog 68 #[u9000_, .int .i64 a1, .int .i64 a2] w fun e w' => ∃ v0_ : Value, e = .returned (v0_) ∧ Kd.R k55 55 w' w0.heap.size (fun k_ => (P0_ k_ ∨ w.heap.size ≤ k_)) v0_ r ∧ Below w0.heap.size w0 w' ∧ Kept w w' (fun k_ => P0_ k_) := by
  unfold impl_Entry_68.f at h
  by_cases h0 : 0 ≤ a1
  case neg => rw [if_neg h0] at h; cases h
  rw [if_pos h0] at h
  by_cases h1 : a2 = a1 + 1
  case neg => rw [if_neg h1] at h; cases h
  rw [if_pos h1] at h
  by_cases h2 : a1 < (l0.length : Int)
  case neg => rw [if_neg h2] at h; cases h
  rw [if_pos h2] at h
  obtain rfl := Option.some.inj h
  clear h
  obtain ⟨i, rfl⟩ : ∃ i : Nat, a1 = (i : Int) := ⟨a1.toNat, by omega⟩
  obtain ⟨j, rfl⟩ : ∃ j : Nat, a2 = (j : Int) := ⟨a2.toNat, by omega⟩
  have hj0 : j = i + 1 := by omega
  rw [Int.toNat_natCast]
  obtain ⟨n, hn0⟩ : ∃ n, n = l0.length := ⟨_, rfl⟩
  obtain ⟨g, cap, cur, rfl, hbg, hok, hg, hn, hm, hs, ht⟩ := flatR_open (enc := encE) entM encE_len rfl ho0 (by omega)
  clear ho0 h0 h1
  rw [← hn0] at hn ht h2 ⊢
  have hin : i < n := by omega
  clear h2
  unfold maxLen at hm
  obtain ⟨news, hnews⟩ : ∃ news, news = (l0.drop j).flatMap encE := ⟨_, rfl⟩
  have hlen : news.length = (n - j) * 2 := by rw [hnews, flat_len encE_len, List.length_drop, hn0]
  have hcell : ∀ q v, cur[q]? = some v → w.cell? ⟨g, q, none⟩ = some v := fun q v hq => (blk_cell hg q).trans hq
  have hnew : ∀ t u, news[t]? = some u → cur[j * 2 + t]? = some u := by
    intro t u hu
    have htl : t < (n - j) * 2 := by
      have := (List.getElem?_eq_some_iff.1 hu).1
      rwa [hlen] at this
    rw [hnews, ← flat_drop encE_len, List.getElem?_drop, ← ht, List.getElem?_take, if_pos (by omega)] at hu
    simpa using hu
  obtain ⟨A, hA, hsrc⟩ : ∃ A : Addr, (if cap = j then some (⟨g, 0, none⟩ : Addr) else some ⟨g, j * 2, none⟩) = some A ∧ Hid (∀ t u, news[t]? = some u → w.drew.cell? (A.add t) = some u) := by
    by_cases h : cap = j
    · refine ⟨⟨g, 0, none⟩, by simp [h], fun t u hu => ?_⟩
      have h0 : news.length = 0 := by rw [hlen]; omega
      rw [List.length_eq_zero_iff.1 h0] at hu
      simp at hu
    · refine ⟨⟨g, j * 2, none⟩, by simp [h], fun t u hu => ?_⟩
      rw [Addr.add_lit]
      exact hcell _ _ (hnew t u hu)
  have hcs : cur.size = cap * 2 := hs
  have s1 : Hid (news.length = (n - j) * 2) := hlen
  have s2 : Hid (∀ u ∈ news, u.oneCell' = true) := by
    rw [hnews]
    exact one_flat _
  have s3 : Hid (∀ t, t < news.length → (w.drew.cell? ⟨g, 0 + i * 2 + t, none⟩).isSome = true ∧ w.drew.frozen? ⟨g, 0 + i * 2 + t, none⟩ = false) := by
    intro t htl
    rw [hlen] at htl
    have hb : 0 + i * 2 + t < cur.size := by rw [hcs]; omega
    refine ⟨?_, blk_frozen (w := w.drew) hg _⟩
    show (w.cell? _).isSome = true
    rw [hcell _ _ (Array.getElem?_eq_getElem hb)]
    rfl
  obtain ⟨cur1, hcur1⟩ : ∃ cur1 : Array Value, cur1 = (cur.toList.take (0 + i * 2) ++ news ++ cur.toList.drop (0 + i * 2 + news.length)).toArray := ⟨_, rfl⟩
  have hc1s : cur1.size = cap * 2 := by
    rw [hcur1]
    simp [hlen, hcs]
    omega
  obtain ⟨W1, hW1⟩ : ∃ W1, W1 = w.drew.setCells g (0 + i * 2) news := ⟨_, rfl⟩
  have hW1' : W1 = w.drew.setRow g cur1 := by
    rw [hW1, hcur1]
    exact setCells_setRow g (0 + i * 2) _ news cur w.drew hg (by rw [hlen, hcs]; omega)
  have hg1 : W1.heap[g]? = some (.cells cur1 55 (0, 0)) := by
    rw [hW1']
    exact setRow_heap w.drew g cur cur1 _ _ hg
  obtain ⟨zs, hzs⟩ : ∃ zs, zs = (Builtin.zeroCells (Value.agg #[.string ⟨#[]⟩, .int .i64 0]).cells (n - (i + (n - j)))).toList := ⟨_, rfl⟩
  have hn1 : n - (i + (n - j)) = 1 := by omega
  have hz2 : zs = [.string ⟨#[]⟩, .int .i64 0] := by rw [hzs, hn1, zc1]
  have hzl : zs.length = 2 := by rw [hz2]; rfl
  have hcl : ∀ ty, (Builtin.clear_ #[27] ty #[.slice (some ⟨g, (i + (n - j)) * 2, none⟩) (n - (i + (n - j))) (cap - (i + (n - j)))]).run Try.prog W1 = .ok (.tuple #[]) (W1.setRow g (cur1.toList.take ((i + (n - j)) * 2) ++ zs ++ cur1.toList.drop ((i + (n - j)) * 2 + zs.length)).toArray) := fun ty => by
    have h := run_clear_rowk (P := Try.prog) W1 27 55 ty (.agg #[.string ⟨#[]⟩, .int .i64 0]) (n - (i + (n - j))) Try.underlying27 Try.zeroValue55 (by rw [← hzs, hz2]; intro u hu; simp at hu; rcases hu with rfl | rfl <;> rfl) g ((i + (n - j)) * 2) (cap - (i + (n - j))) cur1 55 (by omega) hg1 (by rw [← hzs, hzl, hc1s]; omega)
    rw [← hzs] at h
    exact h
  obtain ⟨i0, hi0, hzz⟩ := Option.map_eq_some_iff.1 info55
  simp only [Prod.mk.injEq] at hzz
  obtain ⟨_, hz1, _⟩ := hzz
  have hout : (cur1.toList.take ((i + (n - j)) * 2) ++ zs ++ cur1.toList.drop ((i + (n - j)) * 2 + zs.length)).toArray.toList.take ((i + (n - j)) * 2) = (l0.take i ++ l0.drop (i + 1)).flatMap encE := by
    have e1 : (cur.toList.take (i * 2)) = (l0.take i).flatMap encE := by
      rw [← flat_take encE_len, ← ht, List.take_take, Nat.min_eq_left (by omega)]
    have e2 : ((l0.take i).flatMap encE).length = i * 2 := by rw [flat_len encE_len, List.length_take]; omega
    rw [List.toList_toArray, List.append_assoc, List.take_append_of_le_length (by rw [List.length_take, Array.length_toList, hc1s]; omega), List.take_take, Nat.min_self, hcur1, List.toList_toArray, Nat.zero_add, e1, List.take_append_of_le_length (by rw [List.length_append, e2, hlen]; omega), List.take_of_length_le (by rw [List.length_append, e2, hlen]; omega), List.flatMap_append, hnews, hj0]
  have X := Aside0.mk hW1'
  have hW : Hid (W1 = w.drew.setCells g (0 + i * 2) news) := hW1
  have HG1 := Aside0.mk hg1
  have HOUT := Aside0.mk hout
  have HB := Aside0.mk hB
  have HN0 := Aside0.mk hn0
  have HC1 := Aside0.mk hc1s
  have hij : i ≤ j := by omega
  have hne : ¬ (i = j) := by omega
  have hjn : j ≤ n := by omega
  have hic : i ≤ cap := by omega
  have hjc : j ≤ cap := by omega
  have hcn : ¬ (cap = i + (n - j)) := by omega
  have hln : i + (n - j) ≤ n := by omega
  have hlc : i + (n - j) ≤ cap := by omega
  have HJ := Aside0.mk hj0
  have HL := Aside0.mk hzl
  clear hz2 hW1 hW1' hg1 hg hcell hnew hnews hlen hcs hs ht hcur1 hc1s hzs hn1 hzl hout hB hn0 hj0
  go_enter Try.func68, Try.ntmps68
  go_wp2_with fail
  go_region_law (refine step_append_room rfl (.tmp 22) (.tmp 25) 27 rfl 55 i0 2 Try.underlying27 hi0 hz1 g 0 i cap (by simp [Act.eval, Act.put]) A (n - j) (cap - j) news (by simp [Act.eval, Act.put]) s1.out hsrc.out s2.out (by omega) s3.out ?_; rw [← hW.out])
  go_wp2
  go_ret
  refine ⟨_, rfl, ?_, ?_, ?_⟩
  · refine flatR_mk entM encE_len rfl ?_ hbg (.inl hok) (setRow_heap W1 g cur1 _ _ _ HG1.out) (by omega) (by unfold maxLen; omega) ?_ (by have h_ := HOUT.out; simp only [List.append_assoc, List.toList_toArray] at h_ ⊢; exact h_)
    · have h1 := HN0.out
      have h2 := HJ.out
      rw [List.length_append, List.length_take, List.length_drop]
      omega
    · have h1 := HC1.out
      have h2 := HL.out
      simp only [List.size_toArray, List.length_append, List.length_take, List.length_drop, Array.length_toList]
      omega
  · rw [X.out]
    exact below_setRow (below_setRow (below_drew HB.out) hbg _) hbg _
  · rw [X.out]
    exact kept_setRow (kept_setRow (Kept.drew (Kept.refl w _)) (.inl hok) _) (.inl hok) _
end Go.Proofs.Ytblejbgkcgajgaa.Q
end

section
namespace Go.Proofs.Ytblejbgkcgajgaa.Q
open Go.RowKit Go.Proofs.YtblejbgkcgajgaaW.PrintWords Go.Proofs.YtblejbgkcgajgaaW.PrintLast Go.Proofs.YtblejbgkcgajgaaW.PrintMore
attribute [local go_sem] max2_int min2_int max_two min_two max_three min_three max_four min_four   -- for this text's walks alone
set_option linter.unusedVariables false
set_option linter.unusedSimpArgs false
attribute [local go_sem] bin_leq bin_gtr bin_geq
def impl_Entry_69.f (l0 : List S55) (a1 : Int) (l2 : List S55) : Option (List S55) := match l2 with
  | [x] => if 0 ≤ a1 then (if a1 ≤ (l0.length : Int) then (if l0.length < 5000000 then some (l0.take a1.toNat ++ [x] ++ l0.drop a1.toNat) else none) else none) else none
  | _ => none
set_option maxHeartbeats 8000000 in
set_option maxRecDepth 100000 in
theorem impl_Entry_69.atEnd (l0 l2 : List S55) (w0 w : World) (P0_ P2_ : Nat → Prop) (v : Value) (g2 c2 : Nat) (hB : Below w0.heap.size w0 w) (ho0 : Kd.R k55 55 w w0.heap.size P0_ v l0) (hl2 : l2.length = 1) (hC2 : Kd.C k55 w (some ⟨g2, 0, none⟩) 1 l2) (hlen : l0.length < 5000000) :
    Calls Try.prog 69 #[v, .int .i64 (l0.length : Int), .slice (some ⟨g2, 0, none⟩) 1 c2] w fun e w' => ∃ v0_ : Value, e = .returned v0_ ∧ Kd.R k55 55 w' w0.heap.size (fun k_ => (P0_ k_ ∨ P2_ k_ ∨ w.heap.size ≤ k_)) v0_ (l0 ++ l2) ∧ Below w0.heap.size w0 w' ∧ Kept w w' (fun k_ => P0_ k_ ∨ P2_ k_) := by
  have HO := Aside0.mk (Kd.R_mono (ok' := fun k_ => (P0_ k_ ∨ P2_ k_ ∨ w.heap.size ≤ k_)) ho0 (fun k hk => .inl hk))
  have HB := Aside0.mk hB
  have H1 := Aside0.mk ho0.1
  have HC := Aside0.mk hC2
  obtain ⟨A0, c0, rfl⟩ := Kd.R_slice ho0
  have hnc : l0.length ≤ c0 := (Kd.R_reads' ho0).2.1
  obtain ⟨n, hn⟩ : ∃ n, n = l0.length := ⟨_, rfl⟩
  have HN := Aside0.mk hn
  rw [← hn] at HO H1 hnc hlen ⊢
  have hin : (n : Int) ≤ (n : Int) := Int.le_refl _
  have hm0 : ¬ ((1 : Nat) : Int) = 0 := by decide
  clear hB ho0 hC2 hn
  go_enter Try.func69, Try.ntmps69
  go_wp2_with (at_builtin; refine Kd.R_append_rows k55 (w0 := w0) w0.heap.size rfl (.tmp 23) (.tmp 24) 27 55 (.agg #[(.string ⟨#[]⟩), (.int .i64 0)]) 24 rfl Try.underlying27 info55 rfl (by decide) (by omega) (.slice A0 n c0) l0 l2 (some ⟨g2, 0, none⟩) 1 c2 (fun k_ => (P0_ k_ ∨ P2_ k_ ∨ w.heap.size ≤ k_)) (fun _ => False) rfl rfl HO.out HC.out (fun x cs hK => by rw [k55_open hK]; exact k55_mkM _ _ _ x) (fun _ h => h.elim) (fun k hk => .inr (.inr hk)) HB.out (below_size HB.out) (by rw [← HN.out]; omega) ?_; intro v1 w1 hr hb hg _; have HR1 := Aside0.mk hr; have HB1 := Aside0.mk hb; have HG1 := Aside0.mk hg; clear hr hb hg)
  all_goals
    go_ret
    refine ⟨_, rfl, HR1.out, HB1.out, ⟨HG1.out.size, fun k hk hn2 => HG1.out.block k hk (fun e => hn2 (.inl (H1.out k e.symm)))⟩⟩
set_option maxHeartbeats 8000000 in
set_option maxRecDepth 100000 in
theorem impl_Entry_69.shift (l0 : List S55) (x : S55) (w0 w : World) (P0_ P2_ : Nat → Prop) (g cap g2 cap2 i n m j k : Nat) (cur cur2 : Array Value) (hB : Below w0.heap.size w0 w) (hbg : w0.heap.size ≤ g) (hok : P0_ g) (hne : g2 ≠ g)
    (hg : w.heap[g]? = some (.cells cur 55 (0, 0))) (hm : cap ≤ maxLen) (hs : cur.size = cap * 2) (ht : cur.toList.take (n * 2) = l0.flatMap encE)
    (hg2 : w.heap[g2]? = some (.cells cur2 55 (0, 0))) (hs2 : cur2.size = cap2 * 2) (hmc : m ≤ cap2) (ht2 : cur2.toList.take (m * 2) = encE x)
    (hn : n = l0.length) (hm1 : m = 1) (hi : i < n) (hnc : n ≤ cap) (hj : j = i + m) (hk : k = n + m) (h50 : n < 5000000) (hroom : k ≤ cap) :
    Calls Try.prog 69 #[.slice (some ⟨g, 0, none⟩) n cap, .int .i64 (i : Int), .slice (some ⟨g2, 0, none⟩) m cap2] w fun e w' => ∃ v0_ : Value, e = .returned v0_ ∧ Kd.R k55 55 w' w0.heap.size (fun k_ => (P0_ k_ ∨ P2_ k_ ∨ w.heap.size ≤ k_)) v0_ (l0.take i ++ [x] ++ l0.drop i) ∧ Below w0.heap.size w0 w' ∧ Kept w w' (fun k_ => P0_ k_ ∨ P2_ k_) := by
  unfold maxLen at hm
  obtain ⟨i0, hi0, hzz⟩ := Option.map_eq_some_iff.1 info55
  simp only [Prod.mk.injEq] at hzz
  obtain ⟨hz0, hz1, hzb⟩ := hzz
  have hsz : (Try.prog.info? 55).map (·.size) = some 2 := by rw [hi0]; simp [hz1]
  have hso : ∀ w, (Go.sizeOf 55).run Try.prog w = .ok 2 w := fun w => by simp [Go.sizeOf, typeInfo, hi0, hz1]
  obtain ⟨cs1, hcs1⟩ : ∃ cs1, cs1 = (l0.drop i).flatMap encE := ⟨_, rfl⟩
  have hc1 : cs1.length = (n - i) * 2 := by rw [hcs1, flat_len encE_len, List.length_drop, hn]
  have hsrc : ∀ (t : Nat) (u : Value), cs1[t]? = some u → cur[i * 2 + t]? = some u := by
    intro t u hu
    have htl : t < (n - i) * 2 := by
      have := (List.getElem?_eq_some_iff.1 hu).1
      rwa [hc1] at this
    rw [hcs1, ← flat_drop encE_len, List.getElem?_drop, ← ht, List.getElem?_take, if_pos (by omega)] at hu
    simpa using hu
  have hsrc2 : ∀ (t : Nat) (u : Value), (encE x)[t]? = some u → cur2[t]? = some u := by
    intro t u hu
    have htl : t < 2 := (List.getElem?_eq_some_iff.1 hu).1
    rw [← ht2, List.getElem?_take, if_pos (by omega)] at hu
    simpa using hu
  have one_e : ∀ u ∈ encE x, u.oneCell' = true := by
    intro u hu
    have := one_flat [x] u (by rw [List.flatMap_cons, List.flatMap_nil, List.append_nil]; exact hu)
    exact this
  have hz1' : ¬ ((m : Int) = 0) := by omega
  have hz2 : ¬ ((i : Int) = (n : Int)) := by omega
  have hin : i ≤ n := by omega
  have hic : i ≤ cap := by omega
  have hik : i ≤ k := by omega
  have hjk : j ≤ k := by omega
  have hci : ¬ (cap = i) := by omega
  have hci' : ¬ ((cap : Int) = (i : Int)) := by omega
  have e1 : (cur.toList.take (i * 2)) = (l0.take i).flatMap encE := by
    rw [← flat_take encE_len, ← ht, List.take_take, Nat.min_eq_left (by omega)]
  have e2 : (l0.take i).flatMap encE ++ encE x ++ cs1 = (l0.take i ++ [x] ++ l0.drop i).flatMap encE := by
    rw [hcs1, List.flatMap_append, List.flatMap_append, List.flatMap_cons, List.flatMap_nil, List.append_nil]
  have e3 : (l0.take i ++ [x] ++ l0.drop i).length = k := by
    simp only [List.length_append, List.length_take, List.length_drop, List.length_cons, List.length_nil]
    omega
  have hov : ∀ lb cb, (callFunc 84 #[.slice (some ⟨g2, 0, none⟩) m cap2, .slice (some ⟨g, j * 2, none⟩) lb cb]).run Try.prog w = .ok (.value (.bool false)) w := fun lb cb => by
    rw [run_callFunc_extern Try.func84 (by kernel_rfl) (by kernel_rfl) (by kernel_rfl) (e := Extern.SlicesOverlaps.overlaps #[27, 27] #[4]) (by kernel_rfl),
      Lib.run_overlaps_apart w 27 4 55 Try.underlying27 2 hso ⟨g2, 0, none⟩ ⟨g, j * 2, none⟩ m cap2 lb cb hne 55 55 cur2.size cur.size (by simp [World.shape?, hg2]) (by simp [World.shape?, hg]) (by omega) (blk_frozen hg2 _) (blk_frozen hg2 _)]
    rfl
  obtain ⟨cur1, hcur1⟩ : ∃ cur1 : Array Value, cur1 = (cur.toList.take (j * 2) ++ cs1 ++ cur.toList.drop (j * 2 + cs1.length)).toArray := ⟨_, rfl⟩
  have hc1s : cur1.size = cap * 2 := by
    rw [hcur1]
    simp only [List.size_toArray, List.length_append, List.length_take, List.length_drop, Array.length_toList, hc1, hs]
    omega
  obtain ⟨W1, hW1⟩ : ∃ W1, W1 = w.drew.setRow g cur1 := ⟨_, rfl⟩
  have hg1 : W1.heap[g]? = some (.cells cur1 55 (0, 0)) := by rw [hW1]; exact setRow_heap w.drew g cur cur1 _ _ hg
  have hg21 : W1.heap[g2]? = some (.cells cur2 55 (0, 0)) := by rw [hW1, setRow_other w.drew g g2 cur1 hne]; exact hg2
  have hcp1 : Aside0 (∀ ty, (Builtin.copy_ #[27, 27] ty #[.slice (some ⟨g, j * 2, none⟩) (k - j) (cap - j), .slice (some ⟨g, i * 2, none⟩) (k - i) (cap - i)]).run Try.prog w.drew = .ok (goInt (n - i : Nat)) W1) := Aside0.mk fun ty => by
    rw [hW1, hcur1]
    exact run_copy_rowk w.drew _ _ ty 55 2 g (j * 2) (k - j) (cap - j) ⟨g, i * 2, none⟩ (k - i) (cap - i) (n - i) cur 55 cs1 Try.underlying27 hsz hg (by simp only [Nat.min_def]; split <;> omega) hc1
      (fun t u hu => by rw [Addr.add_lit]; exact (blk_cell (w := w.drew) hg (i * 2 + t)).trans (hsrc t u hu)) (by rw [hc1, hs]; omega) (by rw [hcs1]; exact one_flat _)
  obtain ⟨cur3, hcur3⟩ : ∃ cur3 : Array Value, cur3 = (cur1.toList.take (i * 2) ++ encE x ++ cur1.toList.drop (i * 2 + (encE x).length)).toArray := ⟨_, rfl⟩
  have hcp2 : Aside0 (∀ ty, (Builtin.copy_ #[27, 27] ty #[.slice (some ⟨g, i * 2, none⟩) (k - i) (cap - i), .slice (some ⟨g2, 0, none⟩) m cap2]).run Try.prog W1 = .ok (goInt m) (W1.setRow g cur3)) := Aside0.mk fun ty => by
    rw [hcur3]
    exact run_copy_rowk W1 _ _ ty 55 2 g (i * 2) (k - i) (cap - i) ⟨g2, 0, none⟩ m cap2 m cur1 55 (encE x) Try.underlying27 hsz hg1 (by simp only [Nat.min_def]; split <;> omega) (by rw [hm1]; rfl)
      (fun t u hu => by rw [Addr.add_lit, Nat.zero_add]; exact (blk_cell hg21 t).trans (hsrc2 t u hu)) (by rw [hc1s]; show i * 2 + 2 ≤ _; omega) one_e
  have hout : cur3.toList.take (k * 2) = (l0.take i ++ [x] ++ l0.drop i).flatMap encE := by
    have hb : j * 2 = i * 2 + (encE x).length := by show j * 2 = i * 2 + 2; omega
    have hl : j * 2 + cs1.length ≤ cur.toList.length := by rw [hc1, Array.length_toList, hs]; omega
    rw [hcur3, hcur1, List.toList_toArray, List.toList_toArray, row_shift hb hl, e1, e2, List.take_append_of_le_length (by rw [flat_len encE_len, e3]; omega), List.take_of_length_le (by rw [flat_len encE_len, e3]; omega)]
  have hc3s : cur3.size = cap * 2 := by
    rw [hcur3]
    simp only [List.size_toArray, List.length_append, List.length_take, List.length_drop, Array.length_toList, hc1s, encE, List.length_cons, List.length_nil]
    omega
  have hfin : Kd.R k55 55 (W1.setRow g cur3) w0.heap.size (fun k_ => (P0_ k_ ∨ P2_ k_ ∨ w.heap.size ≤ k_)) (.slice (some ⟨g, 0, none⟩) k cap) (l0.take i ++ [x] ++ l0.drop i) :=
    flatR_mk entM encE_len rfl e3.symm hbg (.inl hok) (setRow_heap W1 g cur1 _ _ _ hg1) hroom (by unfold maxLen; omega) hc3s hout
  have hbel : Below w0.heap.size w0 (W1.setRow g cur3) := by
    rw [hW1]
    exact below_setRow (below_setRow (below_drew hB) hbg _) hbg _
  have hkp : Kept w (W1.setRow g cur3) (fun k_ => P0_ k_ ∨ P2_ k_) := by
    rw [hW1]
    exact kept_setRow (kept_setRow (Kept.drew (Kept.refl w _)) (.inl (.inl hok)) _) (.inl (.inl hok)) _
  have HF := Aside0.mk (And.intro hfin (And.intro hbel hkp))
  have hcj : ¬ (cap = j) := by omega
  have hgt : ¬ ((cap : Int) < (k : Int)) := by omega
  have hkc : k ≤ cap := hroom
  have hj10 : i + m = j ∧ j < 10000000 ∧ n + m = k ∧ k < 10000000 ∧ k = i + (k - i) := by omega
  have hw1 : True → IntKind.i64.wrap ((i : Int) + (m : Int)) = (j : Int) := fun _ => (wI hj10.1 hj10.2.1).1
  have hw1' : True → wrap64 ((i : Int) + (m : Int)) = (j : Int) := fun _ => (wI hj10.1 hj10.2.1).2
  have hw2 : True → IntKind.i64.wrap ((n : Int) + (m : Int)) = (k : Int) := fun _ => (wI hj10.2.2.1 hj10.2.2.2.1).1
  have hw2' : True → wrap64 ((n : Int) + (m : Int)) = (k : Int) := fun _ => (wI hj10.2.2.1 hj10.2.2.2.1).2
  have hw3 : True → IntKind.i64.wrap ((k : Int) - (i : Int)) = ((k - i : Nat) : Int) := fun _ => (wS hj10.2.2.2.2 hj10.2.2.2.1).1
  have hw3' : True → wrap64 ((k : Int) - (i : Int)) = ((k - i : Nat) : Int) := fun _ => (wS hj10.2.2.2.2 hj10.2.2.2.1).2
  clear hj10 h50
  clear hB hg hg2 hg1 hg21 hs hs2 ht ht2 hcs1 hc1 hsrc hsrc2 one_e e1 e2 e3 hcur1 hc1s hW1 hcur3 hout hc3s hfin hbel hkp hok hn hj hk hm1
  go_enter Try.func69, Try.ntmps69
  go_wp2_with (simp only [hov])
  go_region_law (refine step_copy_runI rfl (.tmp 73) (.tmp 76) 27 27 rfl (.slice (some ⟨g, j * 2, none⟩) (k - j) (cap - j)) (.slice (some ⟨g, i * 2, none⟩) (k - i) (cap - i)) (by simp [Act.eval, Act.put]) (by simp [Act.eval, Act.put]) (hcp1.out _) ?_)
  have hcp3 := hcp2.out
  go_wp2
  go_ret
  exact ⟨_, rfl, HF.out.1, HF.out.2.1, HF.out.2.2⟩
set_option maxHeartbeats 8000000 in
set_option maxRecDepth 100000 in
theorem impl_Entry_69.grow (l0 : List S55) (x : S55) (w0 w : World) (P0_ P2_ : Nat → Prop) (g cap g2 cap2 i n m j k : Nat) (cur cur2 : Array Value) (hB : Below w0.heap.size w0 w) (hbg : w0.heap.size ≤ g) (hok : P0_ g) (hne : g2 ≠ g)
    (hg : w.heap[g]? = some (.cells cur 55 (0, 0))) (hm : cap ≤ maxLen) (hs : cur.size = cap * 2) (ht : cur.toList.take (n * 2) = l0.flatMap encE)
    (hg2 : w.heap[g2]? = some (.cells cur2 55 (0, 0))) (hs2 : cur2.size = cap2 * 2) (hmc : m ≤ cap2) (ht2 : cur2.toList.take (m * 2) = encE x)
    (hn : n = l0.length) (hm1 : m = 1) (hi : i < n) (hnc : n ≤ cap) (hj : j = i + m) (hk : k = n + m) (h50 : n < 5000000) (hroom : cap < k) :
    Calls Try.prog 69 #[.slice (some ⟨g, 0, none⟩) n cap, .int .i64 (i : Int), .slice (some ⟨g2, 0, none⟩) m cap2] w fun e w' => ∃ v0_ : Value, e = .returned v0_ ∧ Kd.R k55 55 w' w0.heap.size (fun k_ => (P0_ k_ ∨ P2_ k_ ∨ w.heap.size ≤ k_)) v0_ (l0.take i ++ [x] ++ l0.drop i) ∧ Below w0.heap.size w0 w' ∧ Kept w w' (fun k_ => P0_ k_ ∨ P2_ k_) := by
  unfold maxLen at hm
  obtain ⟨i0, hi0, hzz⟩ := Option.map_eq_some_iff.1 info55
  simp only [Prod.mk.injEq] at hzz
  obtain ⟨hz0, hz1, hzb⟩ := hzz
  have hsz : (Try.prog.info? 55).map (·.size) = some 2 := by rw [hi0]; simp [hz1]
  have hso : ∀ w, (Go.sizeOf 55).run Try.prog w = .ok 2 w := fun w => by simp [Go.sizeOf, typeInfo, hi0, hz1]
  obtain ⟨cs1, hcs1⟩ : ∃ cs1, cs1 = (l0.drop i).flatMap encE := ⟨_, rfl⟩
  have hc1 : cs1.length = (n - i) * 2 := by rw [hcs1, flat_len encE_len, List.length_drop, hn]
  have hsrc : ∀ (t : Nat) (u : Value), cs1[t]? = some u → cur[i * 2 + t]? = some u := by
    intro t u hu
    have htl : t < (n - i) * 2 := by
      have := (List.getElem?_eq_some_iff.1 hu).1
      rwa [hc1] at this
    rw [hcs1, ← flat_drop encE_len, List.getElem?_drop, ← ht, List.getElem?_take, if_pos (by omega)] at hu
    simpa using hu
  have hsrc2 : ∀ (t : Nat) (u : Value), (encE x)[t]? = some u → cur2[t]? = some u := by
    intro t u hu
    have htl : t < 2 := (List.getElem?_eq_some_iff.1 hu).1
    rw [← ht2, List.getElem?_take, if_pos (by omega)] at hu
    simpa using hu
  have one_e : ∀ u ∈ encE x, u.oneCell' = true := by
    intro u hu
    have := one_flat [x] u (by rw [List.flatMap_cons, List.flatMap_nil, List.append_nil]; exact hu)
    exact this
  have hz1' : ¬ ((m : Int) = 0) := by omega
  have hz2 : ¬ ((i : Int) = (n : Int)) := by omega
  have hin : i ≤ n := by omega
  have hic : i ≤ cap := by omega
  have hik : i ≤ k := by omega
  have hjk : j ≤ k := by omega
  have hci : ¬ (cap = i) := by omega
  have hci' : ¬ ((cap : Int) = (i : Int)) := by omega
  have e1 : (cur.toList.take (i * 2)) = (l0.take i).flatMap encE := by
    rw [← flat_take encE_len, ← ht, List.take_take, Nat.min_eq_left (by omega)]
  have e2 : (l0.take i).flatMap encE ++ encE x ++ cs1 = (l0.take i ++ [x] ++ l0.drop i).flatMap encE := by
    rw [hcs1, List.flatMap_append, List.flatMap_append, List.flatMap_cons, List.flatMap_nil, List.append_nil]
  have e3 : (l0.take i ++ [x] ++ l0.drop i).length = k := by
    simp only [List.length_append, List.length_take, List.length_drop, List.length_cons, List.length_nil]
    omega
  have hbw : g < w.heap.size := blk_lt hg
  have hbw2 : g2 < w.heap.size := blk_lt hg2
  have hold : (Builtin.firstCells i0.size i (.slice (some ⟨g, 0, none⟩) i cap)).run Try.prog w.drew = .ok ((l0.take i).flatMap encE).toArray w.drew := by
    rw [hz1]
    exact run_firstCells_some w.drew 2 i ⟨g, 0, none⟩ i cap _ (by rw [flat_len encE_len, List.length_take, Nat.min_eq_left (by omega)]) (fun t u hu => by
      rw [Addr.add_lit, Nat.zero_add]
      refine (blk_cell (w := w.drew) hg t).trans ?_
      rw [← e1, List.getElem?_take] at hu
      split at hu
      · simpa using hu
      · cases hu)
  obtain ⟨G, hG⟩ : ∃ G, G = grownCap w k cap 55 := ⟨_, rfl⟩
  have hGn : k ≤ G := by rw [hG]; exact grownCap_ge w _ _ _
  have hGm : G ≤ maxLen := by
    rw [hG]
    exact grownCap_le_maxLen w k cap 55 (by unfold maxLen; omega)
  obtain ⟨ROW, hROW⟩ : ∃ ROW : Array Value, ROW = ((l0.take i).flatMap encE).toArray ++ Builtin.zeroCells (Value.agg #[.string ⟨#[]⟩, .int .i64 0]).cells (k - i) ++ Builtin.zeroCells (Value.agg #[.string ⟨#[]⟩, .int .i64 0]).cells (G - k) := ⟨_, rfl⟩
  obtain ⟨W1, hW1⟩ : ∃ W1, W1 = w.drew.alloc (.cells ROW 55) := ⟨_, rfl⟩
  have hikk : i + (k - i) = k := by omega
  have hrz : Aside0 (∀ ty, (Builtin.append_ #[27, 3] ty #[.slice (some ⟨g, 0, none⟩) i cap, .int .i64 ((k - i : Nat) : Int)]).run Try.prog w = .ok (.slice (some ⟨w.heap.size, 0, none⟩) k G) W1) := Aside0.mk fun ty => by
    have h := Lib.run_append_grow_zeros w 27 3 ty 55 i0 (.agg #[.string ⟨#[]⟩, .int .i64 0]) .i64 .i64 Try.underlying27 Try.underlying3 hi0 hz0 (some ⟨g, 0, none⟩) i cap _ hold (k - i) (by omega) (by rw [hz1]; omega) (by omega) (by omega) (by rw [hzb]; omega) (by rw [hzb, hikk]; exact growslice_fits hroom (by omega))
    rw [hikk, ← hG, ← hROW, ← hW1] at h
    exact h
  have zl : ∀ q, (Builtin.zeroCells (Value.agg #[.string ⟨#[]⟩, .int .i64 0]).cells q).size = q * 2 := fun q => by
    simp [Builtin.zeroCells, Value.cells]
  have hRs : ROW.size = G * 2 := by
    rw [hROW, Array.size_append, Array.size_append, List.size_toArray, flat_len encE_len, List.length_take, zl, zl]
    omega
  have hRt : ROW.toList.take (i * 2) = (l0.take i).flatMap encE := by
    have hl : ((l0.take i).flatMap encE).length = i * 2 := by rw [flat_len encE_len, List.length_take]; omega
    rw [hROW, Array.toList_append, Array.toList_append, List.append_assoc, List.take_append_of_le_length (by simp only []; omega), List.take_of_length_le (by simp only []; omega)]
  have hN : W1.heap[w.heap.size]? = some (.cells ROW 55 (0, 0)) := by
    rw [hW1]
    exact heap_alloc_new w.drew _
  have hO : ∀ q, q < w.heap.size → W1.heap[q]? = w.heap[q]? := fun q hq => by
    rw [hW1]
    exact (below_alloc (Below.refl w.drew.heap.size w.drew) (.cells ROW 55)).block q hq
  obtain ⟨ROW2, hR2⟩ : ∃ ROW2 : Array Value, ROW2 = (ROW.toList.take (i * 2) ++ encE x ++ ROW.toList.drop (i * 2 + (encE x).length)).toArray := ⟨_, rfl⟩
  have hR2s : ROW2.size = G * 2 := by
    rw [hR2]
    simp only [List.size_toArray, List.length_append, List.length_take, List.length_drop, Array.length_toList, hRs, encE, List.length_cons, List.length_nil]
    omega
  obtain ⟨W2, hW2⟩ : ∃ W2, W2 = W1.setRow w.heap.size ROW2 := ⟨_, rfl⟩
  have hcpA : ∀ ty, (Builtin.copy_ #[27, 27] ty #[.slice (some ⟨w.heap.size, i * 2, none⟩) (k - i) (G - i), .slice (some ⟨g2, 0, none⟩) m cap2]).run Try.prog W1 = .ok (goInt m) W2 := fun ty => by
    rw [hW2, hR2]
    exact run_copy_rowk W1 _ _ ty 55 2 w.heap.size (i * 2) (k - i) (G - i) ⟨g2, 0, none⟩ m cap2 m ROW 55 (encE x) Try.underlying27 hsz hN (by simp only [Nat.min_def]; split <;> omega) (by rw [hm1]; rfl)
      (fun t u hu => by rw [Addr.add_lit, Nat.zero_add]; exact (blk_cell ((hO g2 hbw2).trans hg2) t).trans (hsrc2 t u hu)) (by rw [hRs]; show i * 2 + 2 ≤ _; omega) one_e
  have hN2 : W2.heap[w.heap.size]? = some (.cells ROW2 55 (0, 0)) := by rw [hW2]; exact setRow_heap W1 _ ROW ROW2 _ _ hN
  have hg2' : W2.heap[g]? = some (.cells cur 55 (0, 0)) := by rw [hW2, setRow_other W1 w.heap.size g ROW2 (by omega), hO g hbw]; exact hg
  obtain ⟨ROW3, hR3⟩ : ∃ ROW3 : Array Value, ROW3 = (ROW2.toList.take (j * 2) ++ cs1 ++ ROW2.toList.drop (j * 2 + cs1.length)).toArray := ⟨_, rfl⟩
  have hcpB : Aside0 (∀ ty, (Builtin.copy_ #[27, 27] ty #[.slice (some ⟨w.heap.size, j * 2, none⟩) (k - j) (G - j), .slice (some ⟨g, i * 2, none⟩) (n - i) (cap - i)]).run Try.prog W2.drew = .ok (goInt (n - i : Nat)) (W2.drew.setRow w.heap.size ROW3)) := Aside0.mk fun ty => by
    rw [hR3]
    exact run_copy_rowk W2.drew _ _ ty 55 2 w.heap.size (j * 2) (k - j) (G - j) ⟨g, i * 2, none⟩ (n - i) (cap - i) (n - i) ROW2 55 cs1 Try.underlying27 hsz hN2 (by simp only [Nat.min_def]; split <;> omega) hc1
      (fun t u hu => by rw [Addr.add_lit]; exact (blk_cell (w := W2.drew) hg2' (i * 2 + t)).trans (hsrc t u hu)) (by rw [hc1, hR2s]; omega) (by rw [hcs1]; exact one_flat _)
  have hR3s : ROW3.size = G * 2 := by
    rw [hR3]
    simp only [List.size_toArray, List.length_append, List.length_take, List.length_drop, Array.length_toList, hR2s, hc1]
    omega
  have hout : ROW3.toList.take (k * 2) = (l0.take i ++ [x] ++ l0.drop i).flatMap encE := by
    have hb : j * 2 = i * 2 + (encE x).length := by show j * 2 = i * 2 + 2; omega
    have hl : j * 2 + cs1.length ≤ ROW.toList.length := by rw [hc1, Array.length_toList, hRs]; omega
    have hkk : k * 2 = j * 2 + cs1.length := by rw [hc1]; omega
    rw [hR3, hR2, List.toList_toArray, List.toList_toArray, hkk, row_two hb hl, hRt, e2]
  have hsw : w0.heap.size ≤ w.heap.size := hB.size
  have hfin : Kd.R k55 55 (W2.drew.setRow w.heap.size ROW3) w0.heap.size (fun k_ => (P0_ k_ ∨ P2_ k_ ∨ w.heap.size ≤ k_)) (.slice (some ⟨w.heap.size, 0, none⟩) k G) (l0.take i ++ [x] ++ l0.drop i) :=
    flatR_mk entM encE_len rfl e3.symm hsw (.inr (.inr (Nat.le_refl _))) (setRow_heap W2.drew _ ROW2 _ _ _ hN2) hGn hGm hR3s hout
  have hbel : Below w0.heap.size w0 (W2.drew.setRow w.heap.size ROW3) := by
    rw [hW2, hW1]
    exact below_setRow (below_drew (below_setRow (below_alloc (below_drew hB) _) hsw _)) hsw _
  have hkp : Kept w (W2.drew.setRow w.heap.size ROW3) (fun k_ => P0_ k_ ∨ P2_ k_) := by
    rw [hW2, hW1]
    exact kept_setRow (Kept.drew (kept_setRow (Kept.alloc (Kept.drew (Kept.refl w _)) _) (.inr (Nat.le_refl _)) _)) (.inr (Nat.le_refl _)) _
  have HF := Aside0.mk (And.intro hfin (And.intro hbel hkp))
  have hGi : ¬ (G = i) := by omega
  have hGj : ¬ (G = j) := by omega
  have hgt : (cap : Int) < (k : Int) := by omega
  have hiG : i ≤ G := by omega
  have hjG : j ≤ G := by omega
  have hG63 : G ≤ 9223372036854775807 := by
    have := hGm
    unfold maxLen at this
    omega
  have hj10 : i + m = j ∧ j < 10000000 ∧ n + m = k ∧ k < 10000000 ∧ k = i + (k - i) := by omega
  have hw1 : True → IntKind.i64.wrap ((i : Int) + (m : Int)) = (j : Int) := fun _ => (wI hj10.1 hj10.2.1).1
  have hw1' : True → wrap64 ((i : Int) + (m : Int)) = (j : Int) := fun _ => (wI hj10.1 hj10.2.1).2
  have hw2 : True → IntKind.i64.wrap ((n : Int) + (m : Int)) = (k : Int) := fun _ => (wI hj10.2.2.1 hj10.2.2.2.1).1
  have hw2' : True → wrap64 ((n : Int) + (m : Int)) = (k : Int) := fun _ => (wI hj10.2.2.1 hj10.2.2.2.1).2
  have hw3 : True → IntKind.i64.wrap ((k : Int) - (i : Int)) = ((k - i : Nat) : Int) := fun _ => (wS hj10.2.2.2.2 hj10.2.2.2.1).1
  have hw3' : True → wrap64 ((k : Int) - (i : Int)) = ((k - i : Nat) : Int) := fun _ => (wS hj10.2.2.2.2 hj10.2.2.2.1).2
  clear hj10 h50
  clear hB hg hg2 hs hs2 ht ht2 hcs1 hc1 hsrc hsrc2 one_e e1 e2 e3 hold hROW hRs hRt hN hO hR2 hR2s hW2 hN2 hg2' hR3 hR3s hout hfin hbel hkp hok hn hj hk hm1 hW1 hG hGm hikk zl hbw hbw2 hsw
  go_enter Try.func69, Try.ntmps69
  go_wp2_with (at_builtin; refine Lib.wpList_append_run _ rfl _ _ _ _ rfl _ _ rfl rfl _ _ (hrz.out _) ?_)
  go_region_law (refine step_copy_runI rfl (.tmp 50) (.tmp 53) 27 27 rfl (.slice (some ⟨w.heap.size, j * 2, none⟩) (k - j) (G - j)) (.slice (some ⟨g, i * 2, none⟩) (n - i) (cap - i)) (by simp [Act.eval, Act.put]) (by simp [Act.eval, Act.put]) (hcpB.out _) ?_)
  go_wp2
  go_ret
  exact ⟨_, rfl, HF.out.1, HF.out.2.1, HF.out.2.2⟩
set_option maxHeartbeats 8000000 in
set_option maxRecDepth 100000 in
theorem impl_Entry_69.calls (P0_ : Nat → Prop) (u9000_ : Value) (l0 : List (S55)) (a1 : Int) (P2_ : Nat → Prop) (u9001_ : Value) (l2 : List (S55)) (r : List (S55)) (w0 w : World) (hB : Below w0.heap.size w0 w) (ho0 : Kd.R k55 55 w w0.heap.size P0_ u9000_ l0) (hp0_2 : ∀ k_, P0_ k_ → ¬ P2_ k_) (ho2 : Kd.R k55 55 w w0.heap.size P2_ u9001_ l2) (hp2_0 : ∀ k_, P2_ k_ → ¬ P0_ k_) (h : impl_Entry_69.f l0 a1 l2 = some r) :
    Calls Try.prog 69 #[u9000_, .int .i64 a1, u9001_] w fun e w' => ∃ v0_ : Value, e = .returned (v0_) ∧ Kd.R k55 55 w' w0.heap.size (fun k_ => (P0_ k_ ∨ P2_ k_ ∨ w.heap.size ≤ k_)) v0_ r ∧ Below w0.heap.size w0 w' ∧ Kept w w' (fun k_ => P0_ k_ ∨ P2_ k_) := by
  unfold impl_Entry_69.f at h
  match l2, ho2, h with
  | [], _, h => cases h
  | _ :: _ :: _, _, h => cases h
  | [x], ho2, h =>
  simp only at h
  by_cases h0 : 0 ≤ a1
  case neg => rw [if_neg h0] at h; cases h
  rw [if_pos h0] at h
  by_cases h1 : a1 ≤ (l0.length : Int)
  case neg => rw [if_neg h1] at h; cases h
  rw [if_pos h1] at h
  by_cases h2 : l0.length < 5000000
  case neg => rw [if_neg h2] at h; cases h
  rw [if_pos h2] at h
  obtain rfl := Option.some.inj h
  clear h
  obtain ⟨i, rfl⟩ : ∃ i : Nat, a1 = (i : Int) := ⟨a1.toNat, by omega⟩
  rw [Int.toNat_natCast]
  obtain ⟨A2, c2, e2, hc2, hC2⟩ := Kd.R_reads ho2
  obtain ⟨g2, cap2, cur2, e3, hbg2, hok2, hg2, hn2, hm2, hs2, ht2⟩ := flatR_open (enc := encE) entM encE_len rfl ho2 (by simp)
  rw [e3] at e2 ⊢
  injection e2 with e4 e5 e6
  subst e4 e6
  by_cases hend : i = l0.length
  · subst hend
    rw [List.take_of_length_le (Nat.le_refl _), List.drop_of_length_le (Nat.le_refl _), List.append_nil]
    exact impl_Entry_69.atEnd l0 [x] w0 w P0_ P2_ _ g2 cap2 hB ho0 rfl hC2 h2
  · have hin : i < l0.length := by omega
    obtain ⟨g, cap, cur, rfl, hbg, hok, hg, hnc, hm, hs, ht⟩ := flatR_open (enc := encE) entM encE_len rfl ho0 (by omega)
    have hne : g2 ≠ g := fun e => hp0_2 g hok (e ▸ hok2)
    have ht2' : cur2.toList.take (1 * 2) = encE x := by
      rw [List.flatMap_cons, List.flatMap_nil, List.append_nil] at ht2
      exact ht2
    by_cases hroom : l0.length + 1 ≤ cap
    · exact impl_Entry_69.shift l0 x w0 w P0_ P2_ g cap g2 cap2 i l0.length 1 (i + 1) (l0.length + 1) cur cur2 hB hbg hok hne hg hm hs ht hg2 hs2 hn2 ht2' rfl rfl hin hnc rfl rfl h2 hroom
    · exact impl_Entry_69.grow l0 x w0 w P0_ P2_ g cap g2 cap2 i l0.length 1 (i + 1) (l0.length + 1) cur cur2 hB hbg hok hne hg hm hs ht hg2 hs2 hn2 ht2' rfl rfl hin hnc rfl rfl h2 (by omega)
end Go.Proofs.Ytblejbgkcgajgaa.Q
end

section
namespace Go.Proofs.Ytblejbgkcgajgaa.Q
open Go.RowKit Go.Proofs.YtblejbgkcgajgaaW.PrintWords Go.Proofs.YtblejbgkcgajgaaW.PrintLast Go.Proofs.YtblejbgkcgajgaaW.PrintMore
attribute [local go_sem] max2_int min2_int max_two min_two max_three min_three max_four min_four   -- for this text's walks alone
set_option linter.unusedVariables false
set_option linter.unusedSimpArgs false
attribute [local go_sem] bin_leq bin_gtr bin_geq
def impl_edited.l0 : Nat → List (S55) → List (S62) → Int → Int → Option ((List (S55)))
  | 0, _, _, _, _ => none
  | k + 1, x5, x12, x13, x14 => if x14 < x13 then (if 0 ≤ x14 then (if x14 < (x12.length : Int) then ((impl_find.f x5 ((rd_T62 x12 x14).f0)).bind fun bt491 => (if bt491.2 = true then ((impl_Entry_68.f x5 bt491.1 (wrap64 (bt491.1 + 1))).bind fun t493 => (if ((rd_T62 x12 x14).f2 = true) then (impl_edited.l0 k t493 x12 x13 (wrap64 (x14 + 1))) else ((impl_Entry_69.f t493 bt491.1 (([(⟨(rd_T62 x12 x14).f0, (rd_T62 x12 x14).f1⟩ : S55)] : List (S55)))).bind fun t499 => (impl_edited.l0 k t499 x12 x13 (wrap64 (x14 + 1)))))) else (if ((rd_T62 x12 x14).f2 = true) then (impl_edited.l0 k x5 x12 x13 (wrap64 (x14 + 1))) else ((impl_Entry_69.f x5 bt491.1 (([(⟨(rd_T62 x12 x14).f0, (rd_T62 x12 x14).f1⟩ : S55)] : List (S55)))).bind fun t505 => (impl_edited.l0 k t505 x12 x13 (wrap64 (x14 + 1))))))) else (none)) else (none)) else (some x5)
def impl_edited.f (k : Nat) (l0 : List (S55)) (l1 : List (S62)) : Option ((List (S55))) := (impl_Entry_67.f l0).bind fun t486 => (impl_edited.l0 k t486 l1 (l1.length : Int) 0)
set_option maxHeartbeats 8000000 in
set_option maxRecDepth 100000 in
theorem impl_edited.calls (k : Nat) (A0 : Option Addr) (c0 : Nat) (l0 : List (S55)) (A1 : Option Addr) (c1 : Nat) (l1 : List (S62)) (r : List (S55)) (w : World) (hr0 : Kd.C k55 w A0 l0.length l0) (hc0 : l0.length ≤ c0) (hr1 : Kd.C k62 w A1 l1.length l1) (hc1 : l1.length ≤ c1) (h : impl_edited.f k l0 l1 = some r) :
    Calls Try.prog 53 #[.slice A0 l0.length c0, .slice A1 l1.length c1] w fun e w' => ∃ v0_ : Value, e = .returned (v0_) ∧ Kd.R k55 55 w' w.heap.size (fun _ => True) v0_ r ∧ Below w.heap.size w w' := by
  have hu62 := Try.underlying62
  have hu55 := Try.underlying55
  have HR0 := Aside0.mk hr0
  have HC0 := Aside0.mk hc0
  clear hr0 hc0
  have HR1 := Aside0.mk hr1
  have HC1 := Aside0.mk hc1
  clear hr1 hc1
  have HB := Aside0.mk (Below.refl w.heap.size w)
  have H : ((impl_Entry_67.f l0).bind fun t486 => (impl_edited.l0 k t486 l1 (l1.length : Int) 0)) = some r := h
  clear h
  replace H := Option.bind_eq_some_iff.mp H
  obtain ⟨t486, A30, H⟩ := H
  replace H : (impl_edited.l0 k t486 l1 (l1.length : Int) 0) = some r := H
  have A3 := Aside0.mk A30
  clear A30
  have H' := Aside0.mk H
  clear H
  go_enter Try.func53, Try.ntmps53
  go_wp2_with (((with_reducible refine gate_callee (f := 67) rfl ?_); refine goesL_ (some 11) rfl rfl Try.func67 (by kernel_rfl) rfl #[.slice A0 l0.length c0] rfl gA ?_; (with_reducible refine (impl_Entry_67.calls _ _ l0 t486 _ ?side1 ?side2 A3.out).mono ?_); (case side1 => exact cN HR0); (case side2 => exact HC0.out); rintro e w4 ⟨v487, rfl, ho0, hb⟩; refine ⟨_, rfl, ?_⟩; have n0_ := Aside0.mk (Kd.R_lower ho0 (below_size (w := w) bW)); have n1_ := Aside0.mk (below_step (w := w) bW hb); clear HB; have HO488 := n0_; have HB := n1_; clear n0_ n1_; (try clear hb); (try clear ho0)))
  go_loopg [5, 14] k (fun kq v5 v14 w' => ∃ (x5_1 : List (S55)) (x14_1 : Int), v14 = .int .i64 x14_1 ∧ Aside0 (impl_edited.l0 kq x5_1 l1 (l1.length : Int) x14_1 = some r) ∧ Aside0 (kq ≤ k) ∧ Aside0 (Kd.R k55 55 w' w.heap.size (fun _ => True) v5 x5_1) ∧ Aside0 (Below w.heap.size w w'))
  case atStart => exact ⟨(t486), (0), vE, H', ⟨Nat.le_refl _⟩, ⟨by exact HO488.out⟩, ⟨bW⟩⟩
  case round =>
    clear H'
    obtain ⟨x5_1, x14_1, rfl, HA, HK1, HO_5, HB⟩ := hrel
    cases gk with
    | zero => exact absurd HA.out (by simp [impl_edited.l0])
    | succ k1 =>
      have H := HA.out
      clear HA
      simp only [impl_edited.l0] at H
      by_cases c5 : x14_1 < (l1.length : Int)
      · rw [if_pos c5] at H
        have c5b0 : decide (x14_1 < (l1.length : Int)) = true := decide_eq_true c5
        clear c5
        by_cases c6 : 0 ≤ x14_1
        · rw [if_pos c6] at H
          have c6b0 : decide (0 ≤ x14_1) = true := decide_eq_true c6
          clear c6
          by_cases c7 : x14_1 < (l1.length : Int)
          · rw [if_pos c7] at H
            have c7b0 : decide (x14_1 < (l1.length : Int)) = true := decide_eq_true c7
            clear c7
            replace H := Option.bind_eq_some_iff.mp H
            obtain ⟨⟨t491, t492⟩, A80, H⟩ := H
            replace H : (if t492 = true then ((impl_Entry_68.f x5_1 t491 (wrap64 (t491 + 1))).bind fun t493 => (if ((rd_T62 l1 x14_1).f2 = true) then (impl_edited.l0 k1 t493 l1 (l1.length : Int) (wrap64 (x14_1 + 1))) else ((impl_Entry_69.f t493 t491 (([(⟨(rd_T62 l1 x14_1).f0, (rd_T62 l1 x14_1).f1⟩ : S55)] : List (S55)))).bind fun t499 => (impl_edited.l0 k1 t499 l1 (l1.length : Int) (wrap64 (x14_1 + 1)))))) else (if ((rd_T62 l1 x14_1).f2 = true) then (impl_edited.l0 k1 x5_1 l1 (l1.length : Int) (wrap64 (x14_1 + 1))) else ((impl_Entry_69.f x5_1 t491 (([(⟨(rd_T62 l1 x14_1).f0, (rd_T62 l1 x14_1).f1⟩ : S55)] : List (S55)))).bind fun t505 => (impl_edited.l0 k1 t505 l1 (l1.length : Int) (wrap64 (x14_1 + 1)))))) = some r := H
            have A8 := Aside0.mk A80
            clear A80
            by_cases c9 : t492 = true
            · subst c9
              have H1 : ((impl_Entry_68.f x5_1 t491 (wrap64 (t491 + 1))).bind fun t493 => (if ((rd_T62 l1 x14_1).f2 = true) then (impl_edited.l0 k1 t493 l1 (l1.length : Int) (wrap64 (x14_1 + 1))) else ((impl_Entry_69.f t493 t491 (([(⟨(rd_T62 l1 x14_1).f0, (rd_T62 l1 x14_1).f1⟩ : S55)] : List (S55)))).bind fun t499 => (impl_edited.l0 k1 t499 l1 (l1.length : Int) (wrap64 (x14_1 + 1)))))) = some r := by rw [if_pos rfl] at H; exact H
              clear H
              have H := H1
              clear H1
              replace H := Option.bind_eq_some_iff.mp H
              obtain ⟨t493, A100, H⟩ := H
              replace H : (if ((rd_T62 l1 x14_1).f2 = true) then (impl_edited.l0 k1 t493 l1 (l1.length : Int) (wrap64 (x14_1 + 1))) else ((impl_Entry_69.f t493 t491 (([(⟨(rd_T62 l1 x14_1).f0, (rd_T62 l1 x14_1).f1⟩ : S55)] : List (S55)))).bind fun t499 => (impl_edited.l0 k1 t499 l1 (l1.length : Int) (wrap64 (x14_1 + 1))))) = some r := H
              have A10 := Aside0.mk A100
              clear A100
              obtain ⟨bq11, hbq11⟩ : ∃ b_ : Bool, b_ = ((rd_T62 l1 x14_1).f2) := ⟨_, rfl⟩
              replace H : (if (bq11 = true) then (impl_edited.l0 k1 t493 l1 (l1.length : Int) (wrap64 (x14_1 + 1))) else ((impl_Entry_69.f t493 t491 (([(⟨(rd_T62 l1 x14_1).f0, (rd_T62 l1 x14_1).f1⟩ : S55)] : List (S55)))).bind fun t499 => (impl_edited.l0 k1 t499 l1 (l1.length : Int) (wrap64 (x14_1 + 1))))) = some r := by rw [← hbq11] at H; exact H
              have Nbq11 := Aside0.mk hbq11
              clear hbq11
              by_cases c12 : (bq11 = true)
              · subst c12
                have H1 : (impl_edited.l0 k1 t493 l1 (l1.length : Int) (wrap64 (x14_1 + 1))) = some r := by rw [if_pos rfl] at H; exact H
                clear H
                have H := H1
                clear H1
                have H' := Aside0.mk H
                clear H
                have p489 : 0 ≤ (x14_1 : Int) := odt
                have q489 : x14_1 < (l1.length : Int) := odt
                obtain ⟨ad489, e489, hx489_0, hx489_1, hx489_2⟩ := at_T62 HR1.out x14_1 p489 q489
                (try rw [← Nbq11.out] at hx489_2)
                cases e489
                replace hx489_0 := (HB.out.cell (World.block_lt_of_cell? w _ hx489_0)).trans hx489_0
                replace hx489_1 := (HB.out.cell (World.block_lt_of_cell? w _ hx489_1)).trans hx489_1
                replace hx489_2 := (HB.out.cell (World.block_lt_of_cell? w _ hx489_2)).trans hx489_2
                replace p489 := eq_true p489
                replace q489 := eq_true q489
                go_wp2_with (first | ((with_reducible refine gate_dst (N := 7) rfl ?_); refine bE (N := 7) (cs := #[.string (⟨#[]⟩ : ByteArray), .int .i64 0, .bool false]) (t := 62) ?_; intro gb490 hg w13 hbox hb; have n0_ := Aside0.mk (Kd.R_below (pR HO_5) hb); have n1_ := Aside0.mk (below_step (w := w) bW hb); have n2_ := Aside0.mk (hbox); have n3_ := Aside0.mk (gS (w := w) hg); have n4_ := n3_; clear HO_5; clear HB; have HO_5 := n0_; have HB := n1_; have BK490 := n2_; have GW490 := n3_; have GE490 := n4_; clear n0_ n1_ n2_ n3_ n4_; clear hb hbox hg; obtain ⟨hcz14_0, hcz14_1, hcz14_2⟩ := cz3 BK490; obtain ⟨hfz14_0, hfz14_1, hfz14_2⟩ := fz3 BK490; obtain ⟨Ao15, co15, eo15⟩ := Kd.R_slice HO_5.out; subst eo15) | ((with_reducible refine gate_callee (f := 57) rfl ?_); refine goesL_ (some 22) rfl rfl Try.func57 (by kernel_rfl) rfl #[.slice Ao15 x5_1.length co15, .string ((rd_T62 l1 x14_1).f0)] rfl gA ?_; (with_reducible refine (impl_find.calls _ _ x5_1 ((rd_T62 l1 x14_1).f0) t491 true _ ?side1 ?side2 A8.out).mono ?_); (case side1 => refine (Kd.R_reads' (e := 55) (base := w.heap.size) (ok := fun k_ => True) (n := x5_1.length) (c := co15) ?_).2.2; exact (by exact (Kd.R_mono (Kd.R_far (p := ⟨gb490, 2, none⟩) (Kd.R_far (p := ⟨gb490, 1, none⟩) (Kd.R_far (p := ⟨gb490, 0, none⟩) (Kd.R_types HO_5.out BK490.out (by decide)) (fun _ hk => hk.2) (.string ((rd_T62 l1 x14_1).f0))) (fun _ hk => hk.2) (.int .i64 ((rd_T62 l1 x14_1).f1))) (fun _ hk => hk.2) (.bool true)) (fun _ h_ => h_.1)))); (case side2 => exact (Kd.R_reads' HO_5.out).2.1); rintro e w16 ⟨rfl, hb⟩; refine ⟨_, rfl, ?_⟩; have n0_ := Aside0.mk (Kd.R_below (by exact (Kd.R_mono (Kd.R_far (p := ⟨gb490, 2, none⟩) (Kd.R_far (p := ⟨gb490, 1, none⟩) (Kd.R_far (p := ⟨gb490, 0, none⟩) (Kd.R_types HO_5.out BK490.out (by decide)) (fun _ hk => hk.2) (.string ((rd_T62 l1 x14_1).f0))) (fun _ hk => hk.2) (.int .i64 ((rd_T62 l1 x14_1).f1))) (fun _ hk => hk.2) (.bool true)) (fun _ h_ => h_.1))) hb); have n1_ := Aside0.mk (blk_below (g := gb490) (o := .cells #[.string ((rd_T62 l1 x14_1).f0), .int .i64 ((rd_T62 l1 x14_1).f1), .bool true] 62 (0, 0)) (by refine blk_put (cs := #[.string ((rd_T62 l1 x14_1).f0), .int .i64 ((rd_T62 l1 x14_1).f1), .bool false]) ?_ 2 _ rfl; refine blk_put (cs := #[.string ((rd_T62 l1 x14_1).f0), .int .i64 0, .bool false]) ?_ 1 _ rfl; refine blk_put (cs := #[.string (⟨#[]⟩ : ByteArray), .int .i64 0, .bool false]) ?_ 0 _ rfl; exact BK490.out) hb); have n2_ := Aside0.mk (below_step (w := w) bW hb); clear HO_5; clear BK490; clear HB; have HO_5 := n0_; have BK490 := n1_; have HB := n2_; clear n0_ n1_ n2_; (try clear hb)) | ((with_reducible refine gate_callee (f := 68) rfl ?_); refine goesL_ (some 30) rfl rfl Try.func68 (by kernel_rfl) rfl #[.slice Ao15 x5_1.length co15, .int .i64 t491, .int .i64 (wrap64 (t491 + 1))] rfl gA ?_; (with_reducible refine (impl_Entry_68.calls (fun k_ => some k_ = (.slice Ao15 x5_1.length co15 : Value).ownBlock) (.slice Ao15 x5_1.length co15) x5_1 t491 (wrap64 (t491 + 1)) t493 w _ ?side1 ?side2 A10.out).mono ?_); (case side1 => repeat ((with_reducible exact HB.out))); (case side2 => exact Kd.R_tight rfl HO_5.out); rintro e w17 ⟨v494, rfl, ho0, hb, hkp⟩; refine ⟨_, rfl, ?_⟩; have n0_ := Aside0.mk (blk_kept (kB BK490) hkp (fun hs_ => (fun e_ => (Kd.R_ne HO_5.out BK490.out (by decide)) e_) hs_)); have n1_ := Aside0.mk (Kd.R_mono (ok' := fun k_ => True) ho0 (fun k_ hk_ => trivial)); have n2_ := Aside0.mk (hb); clear BK490; clear HB; clear HO_5; have BK490 := n0_; have HO495 := n1_; have HB := n2_; clear n0_ n1_ n2_; (try clear hb); (try clear hkp); (try clear ho0); obtain ⟨hcz18_0, hcz18_1, hcz18_2⟩ := cz3 BK490; obtain ⟨hfz18_0, hfz18_1, hfz18_2⟩ := fz3 BK490))
                go_roundg k1
                case measure => have := HK1.out; omega
                case rel => exact ⟨(t493), (wrap64 (x14_1 + 1)), vE, H', ⟨by have := HK1.out; omega⟩, ⟨by exact HO495.out⟩, ⟨bW⟩⟩
              · replace c12 := Bool.eq_false_iff.mpr c12
                subst c12
                have H1 : ((impl_Entry_69.f t493 t491 (([(⟨(rd_T62 l1 x14_1).f0, (rd_T62 l1 x14_1).f1⟩ : S55)] : List (S55)))).bind fun t499 => (impl_edited.l0 k1 t499 l1 (l1.length : Int) (wrap64 (x14_1 + 1)))) = some r := by rw [if_neg (show ¬ (false = true) by decide)] at H; exact H
                clear H
                have H := H1
                clear H1
                obtain ⟨y496, hy496⟩ : ∃ y_ : List (S55), y_ = (([(⟨(rd_T62 l1 x14_1).f0, (rd_T62 l1 x14_1).f1⟩ : S55)] : List (S55))) := ⟨_, rfl⟩
                replace H : ((impl_Entry_69.f t493 t491 y496).bind fun t499 => (impl_edited.l0 k1 t499 l1 (l1.length : Int) (wrap64 (x14_1 + 1)))) = some r := by (rw [hy496]; with_reducible exact H)
                have Ny496 := Aside0.mk hy496
                clear hy496
                replace H := Option.bind_eq_some_iff.mp H
                obtain ⟨t499, A190, H⟩ := H
                replace H : (impl_edited.l0 k1 t499 l1 (l1.length : Int) (wrap64 (x14_1 + 1))) = some r := H
                have A19 := Aside0.mk A190
                clear A190
                have H' := Aside0.mk H
                clear H
                have p489 : 0 ≤ (x14_1 : Int) := odt
                have q489 : x14_1 < (l1.length : Int) := odt
                obtain ⟨ad489, e489, hx489_0, hx489_1, hx489_2⟩ := at_T62 HR1.out x14_1 p489 q489
                (try rw [← Nbq11.out] at hx489_2)
                cases e489
                replace hx489_0 := (HB.out.cell (World.block_lt_of_cell? w _ hx489_0)).trans hx489_0
                replace hx489_1 := (HB.out.cell (World.block_lt_of_cell? w _ hx489_1)).trans hx489_1
                replace hx489_2 := (HB.out.cell (World.block_lt_of_cell? w _ hx489_2)).trans hx489_2
                replace p489 := eq_true p489
                replace q489 := eq_true q489
                go_wp2_with (first | ((with_reducible refine gate_dst (N := 7) rfl ?_); refine bE (N := 7) (cs := #[.string (⟨#[]⟩ : ByteArray), .int .i64 0, .bool false]) (t := 62) ?_; intro gb490 hg w20 hbox hb; have n0_ := Aside0.mk (Kd.R_below (pR HO_5) hb); have n1_ := Aside0.mk (below_step (w := w) bW hb); have n2_ := Aside0.mk (hbox); have n3_ := Aside0.mk (gS (w := w) hg); have n4_ := n3_; clear HO_5; clear HB; have HO_5 := n0_; have HB := n1_; have BK490 := n2_; have GW490 := n3_; have GE490 := n4_; clear n0_ n1_ n2_ n3_ n4_; clear hb hbox hg; obtain ⟨hcz21_0, hcz21_1, hcz21_2⟩ := cz3 BK490; obtain ⟨hfz21_0, hfz21_1, hfz21_2⟩ := fz3 BK490; obtain ⟨Ao22, co22, eo22⟩ := Kd.R_slice HO_5.out; subst eo22) | ((with_reducible refine gate_callee (f := 57) rfl ?_); refine goesL_ (some 22) rfl rfl Try.func57 (by kernel_rfl) rfl #[.slice Ao22 x5_1.length co22, .string ((rd_T62 l1 x14_1).f0)] rfl gA ?_; (with_reducible refine (impl_find.calls _ _ x5_1 ((rd_T62 l1 x14_1).f0) t491 true _ ?side1 ?side2 A8.out).mono ?_); (case side1 => refine (Kd.R_reads' (e := 55) (base := w.heap.size) (ok := fun k_ => True) (n := x5_1.length) (c := co22) ?_).2.2; exact (by exact (Kd.R_mono (Kd.R_far (p := ⟨gb490, 2, none⟩) (Kd.R_far (p := ⟨gb490, 1, none⟩) (Kd.R_far (p := ⟨gb490, 0, none⟩) (Kd.R_types HO_5.out BK490.out (by decide)) (fun _ hk => hk.2) (.string ((rd_T62 l1 x14_1).f0))) (fun _ hk => hk.2) (.int .i64 ((rd_T62 l1 x14_1).f1))) (fun _ hk => hk.2) (.bool false)) (fun _ h_ => h_.1)))); (case side2 => exact (Kd.R_reads' HO_5.out).2.1); rintro e w23 ⟨rfl, hb⟩; refine ⟨_, rfl, ?_⟩; have n0_ := Aside0.mk (Kd.R_below (by exact (Kd.R_mono (Kd.R_far (p := ⟨gb490, 2, none⟩) (Kd.R_far (p := ⟨gb490, 1, none⟩) (Kd.R_far (p := ⟨gb490, 0, none⟩) (Kd.R_types HO_5.out BK490.out (by decide)) (fun _ hk => hk.2) (.string ((rd_T62 l1 x14_1).f0))) (fun _ hk => hk.2) (.int .i64 ((rd_T62 l1 x14_1).f1))) (fun _ hk => hk.2) (.bool false)) (fun _ h_ => h_.1))) hb); have n1_ := Aside0.mk (blk_below (g := gb490) (o := .cells #[.string ((rd_T62 l1 x14_1).f0), .int .i64 ((rd_T62 l1 x14_1).f1), .bool false] 62 (0, 0)) (by refine blk_put (cs := #[.string ((rd_T62 l1 x14_1).f0), .int .i64 ((rd_T62 l1 x14_1).f1), .bool false]) ?_ 2 _ rfl; refine blk_put (cs := #[.string ((rd_T62 l1 x14_1).f0), .int .i64 0, .bool false]) ?_ 1 _ rfl; refine blk_put (cs := #[.string (⟨#[]⟩ : ByteArray), .int .i64 0, .bool false]) ?_ 0 _ rfl; exact BK490.out) hb); have n2_ := Aside0.mk (below_step (w := w) bW hb); clear HO_5; clear BK490; clear HB; have HO_5 := n0_; have BK490 := n1_; have HB := n2_; clear n0_ n1_ n2_; (try clear hb)) | ((with_reducible refine gate_callee (f := 68) rfl ?_); refine goesL_ (some 30) rfl rfl Try.func68 (by kernel_rfl) rfl #[.slice Ao22 x5_1.length co22, .int .i64 t491, .int .i64 (wrap64 (t491 + 1))] rfl gA ?_; (with_reducible refine (impl_Entry_68.calls (fun k_ => some k_ = (.slice Ao22 x5_1.length co22 : Value).ownBlock) (.slice Ao22 x5_1.length co22) x5_1 t491 (wrap64 (t491 + 1)) t493 w _ ?side1 ?side2 A10.out).mono ?_); (case side1 => repeat ((with_reducible exact HB.out))); (case side2 => exact Kd.R_tight rfl HO_5.out); rintro e w24 ⟨v494, rfl, ho0, hb, hkp⟩; refine ⟨_, rfl, ?_⟩; have n0_ := Aside0.mk (blk_kept (kB BK490) hkp (fun hs_ => (fun e_ => (Kd.R_ne HO_5.out BK490.out (by decide)) e_) hs_)); have n1_ := Aside0.mk (Kd.R_mono (ok' := fun k_ => True) ho0 (fun k_ hk_ => trivial)); have n2_ := Aside0.mk (hb); clear BK490; clear HB; clear HO_5; have BK490 := n0_; have HO495 := n1_; have HB := n2_; clear n0_ n1_ n2_; (try clear hb); (try clear hkp); (try clear ho0); obtain ⟨hcz25_0, hcz25_1, hcz25_2⟩ := cz3 BK490; obtain ⟨hfz25_0, hfz25_1, hfz25_2⟩ := fz3 BK490) | ((with_reducible refine gate_dst (N := 41) rfl ?_); refine Kd.R_lit k55 _ 55 ?hg (N := 41) ?hd (xs := ([(⟨(rd_T62 l1 x14_1).f0, (rd_T62 l1 x14_1).f1⟩ : S55)] : List (S55))) (inner := [.string ((rd_T62 l1 x14_1).f0), .int .i64 ((rd_T62 l1 x14_1).f1)]) (ok := fun _ => True) (okp := fun _ => True) ?hr ?hp (fun _ hk => hk) trivial (Below.refl _ _) (Nat.le_refl _) (by simp) ?_; (case hd => rfl); (case hg => rfl); (case hr => (go_simp; done)); (case hp => exact (Reps.c2 (show Kd.M k55 _ _ _ (⟨(rd_T62 l1 x14_1).f0, (rd_T62 l1 x14_1).f1⟩ : S55) [.string ((rd_T62 l1 x14_1).f0), .int .i64 ((rd_T62 l1 x14_1).f1)] from (k55_mkM _ _ _ (⟨(rd_T62 l1 x14_1).f0, (rd_T62 l1 x14_1).f1⟩ : S55) )) (Reps.none _ _))); intro v497 w26 ho27 hb hg_ hnew_; clear hg_ hnew_; (rw [← Ny496.out] at ho27); have n0_ := Aside0.mk (Kd.R_elder' (pR HO495) (Kd.R_base ho27) hb); have n1_ := Aside0.mk (Kd.R_lower (Kd.R_new' ho27 (Kd.R_lt (pR HO495))) (below_size (w := w) bW)); have n2_ := Aside0.mk (kb BK490 hb); have n3_ := Aside0.mk (below_step (w := w) bW hb); clear HO495; clear BK490; clear HB; have HO495 := n0_; have HO498 := n1_; have BK490 := n2_; have HB := n3_; clear n0_ n1_ n2_ n3_; clear hb ho27; obtain ⟨Ao28, co28, eo28⟩ := Kd.R_slice HO495.out; subst eo28; obtain ⟨Ao29, co29, eo29⟩ := Kd.R_slice HO498.out; subst eo29) | ((with_reducible refine gate_callee (f := 69) rfl ?_); refine goesL_ (some 42) rfl rfl Try.func69 (by kernel_rfl) rfl #[.slice Ao28 t493.length co28, .int .i64 t491, .slice Ao29 y496.length co29] rfl gA ?_; (with_reducible refine (impl_Entry_69.calls (fun k_ => some k_ = (.slice Ao28 t493.length co28 : Value).ownBlock) (.slice Ao28 t493.length co28) t493 t491 (fun k_ => some k_ = (.slice Ao29 y496.length co29 : Value).ownBlock) (.slice Ao29 y496.length co29) y496 t499 w _ ?side1 ?side2 ?side3 ?side4 ?side5 A19.out).mono ?_); (case side1 => repeat ((with_reducible exact HB.out))); (case side2 => exact Kd.R_tight rfl HO495.out); (case side3 => exact fun k_ e_ => (HO495.out.1 k_ e_.symm).2); (case side4 => exact Kd.R_tight rfl HO498.out); (case side5 => exact fun k_ e_ => (HO498.out.1 k_ e_.symm).2); rintro e w30 ⟨v500, rfl, ho0, hb, hkp⟩; refine ⟨_, rfl, ?_⟩; have n0_ := Aside0.mk (blk_kept (kB BK490) hkp (fun hs_ => Or.elim hs_ (fun e_ => (fun e_ => (Kd.R_ne HO495.out BK490.out (by decide)) e_) e_) (fun e_ => (fun e_ => (Kd.R_ne HO498.out BK490.out (by decide)) e_) e_))); have n1_ := Aside0.mk (Kd.R_mono (ok' := fun k_ => True) ho0 (fun k_ hk_ => trivial)); have n2_ := Aside0.mk (hb); clear BK490; clear HB; clear HO495; clear HO498; have BK490 := n0_; have HO501 := n1_; have HB := n2_; clear n0_ n1_ n2_; (try clear hb); (try clear hkp); (try clear ho0)))
                go_roundg k1
                case measure => have := HK1.out; omega
                case rel => exact ⟨(t499), (wrap64 (x14_1 + 1)), vE, H', ⟨by have := HK1.out; omega⟩, ⟨by exact HO501.out⟩, ⟨bW⟩⟩
            · replace c9 := Bool.eq_false_iff.mpr c9
              subst c9
              have H1 : (if ((rd_T62 l1 x14_1).f2 = true) then (impl_edited.l0 k1 x5_1 l1 (l1.length : Int) (wrap64 (x14_1 + 1))) else ((impl_Entry_69.f x5_1 t491 (([(⟨(rd_T62 l1 x14_1).f0, (rd_T62 l1 x14_1).f1⟩ : S55)] : List (S55)))).bind fun t505 => (impl_edited.l0 k1 t505 l1 (l1.length : Int) (wrap64 (x14_1 + 1))))) = some r := by rw [if_neg (show ¬ (false = true) by decide)] at H; exact H
              clear H
              have H := H1
              clear H1
              obtain ⟨bq31, hbq31⟩ : ∃ b_ : Bool, b_ = ((rd_T62 l1 x14_1).f2) := ⟨_, rfl⟩
              replace H : (if (bq31 = true) then (impl_edited.l0 k1 x5_1 l1 (l1.length : Int) (wrap64 (x14_1 + 1))) else ((impl_Entry_69.f x5_1 t491 (([(⟨(rd_T62 l1 x14_1).f0, (rd_T62 l1 x14_1).f1⟩ : S55)] : List (S55)))).bind fun t505 => (impl_edited.l0 k1 t505 l1 (l1.length : Int) (wrap64 (x14_1 + 1))))) = some r := by rw [← hbq31] at H; exact H
              have Nbq31 := Aside0.mk hbq31
              clear hbq31
              by_cases c32 : (bq31 = true)
              · subst c32
                have H1 : (impl_edited.l0 k1 x5_1 l1 (l1.length : Int) (wrap64 (x14_1 + 1))) = some r := by rw [if_pos rfl] at H; exact H
                clear H
                have H := H1
                clear H1
                have H' := Aside0.mk H
                clear H
                have p489 : 0 ≤ (x14_1 : Int) := odt
                have q489 : x14_1 < (l1.length : Int) := odt
                obtain ⟨ad489, e489, hx489_0, hx489_1, hx489_2⟩ := at_T62 HR1.out x14_1 p489 q489
                (try rw [← Nbq31.out] at hx489_2)
                cases e489
                replace hx489_0 := (HB.out.cell (World.block_lt_of_cell? w _ hx489_0)).trans hx489_0
                replace hx489_1 := (HB.out.cell (World.block_lt_of_cell? w _ hx489_1)).trans hx489_1
                replace hx489_2 := (HB.out.cell (World.block_lt_of_cell? w _ hx489_2)).trans hx489_2
                replace p489 := eq_true p489
                replace q489 := eq_true q489
                go_wp2_with (first | ((with_reducible refine gate_dst (N := 7) rfl ?_); refine bE (N := 7) (cs := #[.string (⟨#[]⟩ : ByteArray), .int .i64 0, .bool false]) (t := 62) ?_; intro gb490 hg w33 hbox hb; have n0_ := Aside0.mk (Kd.R_below (pR HO_5) hb); have n1_ := Aside0.mk (below_step (w := w) bW hb); have n2_ := Aside0.mk (hbox); have n3_ := Aside0.mk (gS (w := w) hg); have n4_ := n3_; clear HO_5; clear HB; have HO_5 := n0_; have HB := n1_; have BK490 := n2_; have GW490 := n3_; have GE490 := n4_; clear n0_ n1_ n2_ n3_ n4_; clear hb hbox hg; obtain ⟨hcz34_0, hcz34_1, hcz34_2⟩ := cz3 BK490; obtain ⟨hfz34_0, hfz34_1, hfz34_2⟩ := fz3 BK490; obtain ⟨Ao35, co35, eo35⟩ := Kd.R_slice HO_5.out; subst eo35) | ((with_reducible refine gate_callee (f := 57) rfl ?_); refine goesL_ (some 22) rfl rfl Try.func57 (by kernel_rfl) rfl #[.slice Ao35 x5_1.length co35, .string ((rd_T62 l1 x14_1).f0)] rfl gA ?_; (with_reducible refine (impl_find.calls _ _ x5_1 ((rd_T62 l1 x14_1).f0) t491 false _ ?side1 ?side2 A8.out).mono ?_); (case side1 => refine (Kd.R_reads' (e := 55) (base := w.heap.size) (ok := fun k_ => True) (n := x5_1.length) (c := co35) ?_).2.2; exact (by exact (Kd.R_mono (Kd.R_far (p := ⟨gb490, 2, none⟩) (Kd.R_far (p := ⟨gb490, 1, none⟩) (Kd.R_far (p := ⟨gb490, 0, none⟩) (Kd.R_types HO_5.out BK490.out (by decide)) (fun _ hk => hk.2) (.string ((rd_T62 l1 x14_1).f0))) (fun _ hk => hk.2) (.int .i64 ((rd_T62 l1 x14_1).f1))) (fun _ hk => hk.2) (.bool true)) (fun _ h_ => h_.1)))); (case side2 => exact (Kd.R_reads' HO_5.out).2.1); rintro e w36 ⟨rfl, hb⟩; refine ⟨_, rfl, ?_⟩; have n0_ := Aside0.mk (Kd.R_below (by exact (Kd.R_mono (Kd.R_far (p := ⟨gb490, 2, none⟩) (Kd.R_far (p := ⟨gb490, 1, none⟩) (Kd.R_far (p := ⟨gb490, 0, none⟩) (Kd.R_types HO_5.out BK490.out (by decide)) (fun _ hk => hk.2) (.string ((rd_T62 l1 x14_1).f0))) (fun _ hk => hk.2) (.int .i64 ((rd_T62 l1 x14_1).f1))) (fun _ hk => hk.2) (.bool true)) (fun _ h_ => h_.1))) hb); have n1_ := Aside0.mk (blk_below (g := gb490) (o := .cells #[.string ((rd_T62 l1 x14_1).f0), .int .i64 ((rd_T62 l1 x14_1).f1), .bool true] 62 (0, 0)) (by refine blk_put (cs := #[.string ((rd_T62 l1 x14_1).f0), .int .i64 ((rd_T62 l1 x14_1).f1), .bool false]) ?_ 2 _ rfl; refine blk_put (cs := #[.string ((rd_T62 l1 x14_1).f0), .int .i64 0, .bool false]) ?_ 1 _ rfl; refine blk_put (cs := #[.string (⟨#[]⟩ : ByteArray), .int .i64 0, .bool false]) ?_ 0 _ rfl; exact BK490.out) hb); have n2_ := Aside0.mk (below_step (w := w) bW hb); clear HO_5; clear BK490; clear HB; have HO_5 := n0_; have BK490 := n1_; have HB := n2_; clear n0_ n1_ n2_; (try clear hb); obtain ⟨hcz37_0, hcz37_1, hcz37_2⟩ := cz3 BK490; obtain ⟨hfz37_0, hfz37_1, hfz37_2⟩ := fz3 BK490))
                go_roundg k1
                case measure => have := HK1.out; omega
                case rel => exact ⟨(x5_1), (wrap64 (x14_1 + 1)), vE, H', ⟨by have := HK1.out; omega⟩, ⟨by exact HO_5.out⟩, ⟨bW⟩⟩
              · replace c32 := Bool.eq_false_iff.mpr c32
                subst c32
                have H1 : ((impl_Entry_69.f x5_1 t491 (([(⟨(rd_T62 l1 x14_1).f0, (rd_T62 l1 x14_1).f1⟩ : S55)] : List (S55)))).bind fun t505 => (impl_edited.l0 k1 t505 l1 (l1.length : Int) (wrap64 (x14_1 + 1)))) = some r := by rw [if_neg (show ¬ (false = true) by decide)] at H; exact H
                clear H
                have H := H1
                clear H1
                obtain ⟨y502, hy502⟩ : ∃ y_ : List (S55), y_ = (([(⟨(rd_T62 l1 x14_1).f0, (rd_T62 l1 x14_1).f1⟩ : S55)] : List (S55))) := ⟨_, rfl⟩
                replace H : ((impl_Entry_69.f x5_1 t491 y502).bind fun t505 => (impl_edited.l0 k1 t505 l1 (l1.length : Int) (wrap64 (x14_1 + 1)))) = some r := by (rw [hy502]; with_reducible exact H)
                have Ny502 := Aside0.mk hy502
                clear hy502
                replace H := Option.bind_eq_some_iff.mp H
                obtain ⟨t505, A380, H⟩ := H
                replace H : (impl_edited.l0 k1 t505 l1 (l1.length : Int) (wrap64 (x14_1 + 1))) = some r := H
                have A38 := Aside0.mk A380
                clear A380
                have H' := Aside0.mk H
                clear H
                have p489 : 0 ≤ (x14_1 : Int) := odt
                have q489 : x14_1 < (l1.length : Int) := odt
                obtain ⟨ad489, e489, hx489_0, hx489_1, hx489_2⟩ := at_T62 HR1.out x14_1 p489 q489
                (try rw [← Nbq31.out] at hx489_2)
                cases e489
                replace hx489_0 := (HB.out.cell (World.block_lt_of_cell? w _ hx489_0)).trans hx489_0
                replace hx489_1 := (HB.out.cell (World.block_lt_of_cell? w _ hx489_1)).trans hx489_1
                replace hx489_2 := (HB.out.cell (World.block_lt_of_cell? w _ hx489_2)).trans hx489_2
                replace p489 := eq_true p489
                replace q489 := eq_true q489
                go_wp2_with (first | ((with_reducible refine gate_dst (N := 7) rfl ?_); refine bE (N := 7) (cs := #[.string (⟨#[]⟩ : ByteArray), .int .i64 0, .bool false]) (t := 62) ?_; intro gb490 hg w39 hbox hb; have n0_ := Aside0.mk (Kd.R_below (pR HO_5) hb); have n1_ := Aside0.mk (below_step (w := w) bW hb); have n2_ := Aside0.mk (hbox); have n3_ := Aside0.mk (gS (w := w) hg); have n4_ := n3_; clear HO_5; clear HB; have HO_5 := n0_; have HB := n1_; have BK490 := n2_; have GW490 := n3_; have GE490 := n4_; clear n0_ n1_ n2_ n3_ n4_; clear hb hbox hg; obtain ⟨hcz40_0, hcz40_1, hcz40_2⟩ := cz3 BK490; obtain ⟨hfz40_0, hfz40_1, hfz40_2⟩ := fz3 BK490; obtain ⟨Ao41, co41, eo41⟩ := Kd.R_slice HO_5.out; subst eo41) | ((with_reducible refine gate_callee (f := 57) rfl ?_); refine goesL_ (some 22) rfl rfl Try.func57 (by kernel_rfl) rfl #[.slice Ao41 x5_1.length co41, .string ((rd_T62 l1 x14_1).f0)] rfl gA ?_; (with_reducible refine (impl_find.calls _ _ x5_1 ((rd_T62 l1 x14_1).f0) t491 false _ ?side1 ?side2 A8.out).mono ?_); (case side1 => refine (Kd.R_reads' (e := 55) (base := w.heap.size) (ok := fun k_ => True) (n := x5_1.length) (c := co41) ?_).2.2; exact (by exact (Kd.R_mono (Kd.R_far (p := ⟨gb490, 2, none⟩) (Kd.R_far (p := ⟨gb490, 1, none⟩) (Kd.R_far (p := ⟨gb490, 0, none⟩) (Kd.R_types HO_5.out BK490.out (by decide)) (fun _ hk => hk.2) (.string ((rd_T62 l1 x14_1).f0))) (fun _ hk => hk.2) (.int .i64 ((rd_T62 l1 x14_1).f1))) (fun _ hk => hk.2) (.bool false)) (fun _ h_ => h_.1)))); (case side2 => exact (Kd.R_reads' HO_5.out).2.1); rintro e w42 ⟨rfl, hb⟩; refine ⟨_, rfl, ?_⟩; have n0_ := Aside0.mk (Kd.R_below (by exact (Kd.R_mono (Kd.R_far (p := ⟨gb490, 2, none⟩) (Kd.R_far (p := ⟨gb490, 1, none⟩) (Kd.R_far (p := ⟨gb490, 0, none⟩) (Kd.R_types HO_5.out BK490.out (by decide)) (fun _ hk => hk.2) (.string ((rd_T62 l1 x14_1).f0))) (fun _ hk => hk.2) (.int .i64 ((rd_T62 l1 x14_1).f1))) (fun _ hk => hk.2) (.bool false)) (fun _ h_ => h_.1))) hb); have n1_ := Aside0.mk (blk_below (g := gb490) (o := .cells #[.string ((rd_T62 l1 x14_1).f0), .int .i64 ((rd_T62 l1 x14_1).f1), .bool false] 62 (0, 0)) (by refine blk_put (cs := #[.string ((rd_T62 l1 x14_1).f0), .int .i64 ((rd_T62 l1 x14_1).f1), .bool false]) ?_ 2 _ rfl; refine blk_put (cs := #[.string ((rd_T62 l1 x14_1).f0), .int .i64 0, .bool false]) ?_ 1 _ rfl; refine blk_put (cs := #[.string (⟨#[]⟩ : ByteArray), .int .i64 0, .bool false]) ?_ 0 _ rfl; exact BK490.out) hb); have n2_ := Aside0.mk (below_step (w := w) bW hb); clear HO_5; clear BK490; clear HB; have HO_5 := n0_; have BK490 := n1_; have HB := n2_; clear n0_ n1_ n2_; (try clear hb); obtain ⟨hcz43_0, hcz43_1, hcz43_2⟩ := cz3 BK490; obtain ⟨hfz43_0, hfz43_1, hfz43_2⟩ := fz3 BK490) | ((with_reducible refine gate_dst (N := 41) rfl ?_); refine Kd.R_lit k55 _ 55 ?hg (N := 41) ?hd (xs := ([(⟨(rd_T62 l1 x14_1).f0, (rd_T62 l1 x14_1).f1⟩ : S55)] : List (S55))) (inner := [.string ((rd_T62 l1 x14_1).f0), .int .i64 ((rd_T62 l1 x14_1).f1)]) (ok := fun _ => True) (okp := fun _ => True) ?hr ?hp (fun _ hk => hk) trivial (Below.refl _ _) (Nat.le_refl _) (by simp) ?_; (case hd => rfl); (case hg => rfl); (case hr => (go_simp; done)); (case hp => exact (Reps.c2 (show Kd.M k55 _ _ _ (⟨(rd_T62 l1 x14_1).f0, (rd_T62 l1 x14_1).f1⟩ : S55) [.string ((rd_T62 l1 x14_1).f0), .int .i64 ((rd_T62 l1 x14_1).f1)] from (k55_mkM _ _ _ (⟨(rd_T62 l1 x14_1).f0, (rd_T62 l1 x14_1).f1⟩ : S55) )) (Reps.none _ _))); intro v503 w44 ho45 hb hg_ hnew_; clear hg_ hnew_; (rw [← Ny502.out] at ho45); have n0_ := Aside0.mk (Kd.R_elder' (pR HO_5) (Kd.R_base ho45) hb); have n1_ := Aside0.mk (Kd.R_lower (Kd.R_new' ho45 (Kd.R_lt (pR HO_5))) (below_size (w := w) bW)); have n2_ := Aside0.mk (kb BK490 hb); have n3_ := Aside0.mk (below_step (w := w) bW hb); clear HO_5; clear BK490; clear HB; have HO_5 := n0_; have HO504 := n1_; have BK490 := n2_; have HB := n3_; clear n0_ n1_ n2_ n3_; clear hb ho45; obtain ⟨Ao46, co46, eo46⟩ := Kd.R_slice HO504.out; subst eo46) | ((with_reducible refine gate_callee (f := 69) rfl ?_); refine goesL_ (some 42) rfl rfl Try.func69 (by kernel_rfl) rfl #[.slice Ao41 x5_1.length co41, .int .i64 t491, .slice Ao46 y502.length co46] rfl gA ?_; (with_reducible refine (impl_Entry_69.calls (fun k_ => some k_ = (.slice Ao41 x5_1.length co41 : Value).ownBlock) (.slice Ao41 x5_1.length co41) x5_1 t491 (fun k_ => some k_ = (.slice Ao46 y502.length co46 : Value).ownBlock) (.slice Ao46 y502.length co46) y502 t505 w _ ?side1 ?side2 ?side3 ?side4 ?side5 A38.out).mono ?_); (case side1 => repeat ((with_reducible exact HB.out))); (case side2 => exact Kd.R_tight rfl HO_5.out); (case side3 => exact fun k_ e_ => (HO_5.out.1 k_ e_.symm).2); (case side4 => exact Kd.R_tight rfl HO504.out); (case side5 => exact fun k_ e_ => (HO504.out.1 k_ e_.symm).2); rintro e w47 ⟨v506, rfl, ho0, hb, hkp⟩; refine ⟨_, rfl, ?_⟩; have n0_ := Aside0.mk (blk_kept (kB BK490) hkp (fun hs_ => Or.elim hs_ (fun e_ => (fun e_ => (Kd.R_ne HO_5.out BK490.out (by decide)) e_) e_) (fun e_ => (fun e_ => (Kd.R_ne HO504.out BK490.out (by decide)) e_) e_))); have n1_ := Aside0.mk (Kd.R_mono (ok' := fun k_ => True) ho0 (fun k_ hk_ => trivial)); have n2_ := Aside0.mk (hb); clear BK490; clear HB; clear HO504; clear HO_5; have BK490 := n0_; have HO507 := n1_; have HB := n2_; clear n0_ n1_ n2_; (try clear hb); (try clear hkp); (try clear ho0)))
                go_roundg k1
                case measure => have := HK1.out; omega
                case rel => exact ⟨(t505), (wrap64 (x14_1 + 1)), vE, H', ⟨by have := HK1.out; omega⟩, ⟨by exact HO507.out⟩, ⟨bW⟩⟩
          · rw [if_neg c7] at H
            exact absurd H (by simp)
        · rw [if_neg c6] at H
          exact absurd H (by simp)
      · rw [if_neg c5] at H
        have c5b0 : decide (x14_1 < (l1.length : Int)) = false := decide_eq_false c5
        clear c5
        obtain rfl := Option.some.inj H
        go_wp2
        go_ret
        exact ⟨_, by rfl, by exact HO_5.out, bW⟩
end Go.Proofs.Ytblejbgkcgajgaa.Q
end

section
namespace Go.Proofs.Ytblejbgkcgajgaa.Q
open Go.RowKit Go.Proofs.YtblejbgkcgajgaaW.PrintWords Go.Proofs.YtblejbgkcgajgaaW.PrintLast Go.Proofs.YtblejbgkcgajgaaW.PrintMore
attribute [local go_sem] max2_int min2_int max_two min_two max_three min_three max_four min_four   -- for this text's walks alone
set_option linter.unusedVariables false
set_option linter.unusedSimpArgs false
attribute [local go_sem] bin_leq bin_gtr bin_geq
def sortEditL_ren : Go.Shelf.Ren := ⟨fun | 6 => 58 | 15 => 77 | 14 => 76 | 28 => 95 | 29 => 96 | 20 => 87 | 21 => 88 | 22 => 89 | 23 => 90 | 24 => 91 | 25 => 92 | 26 => 93 | 27 => 94 | 46 => 101 | 47 => 102 | 48 => 103 | 49 => 104 | 50 => 105 | 57 => 108 | n => n, fun | 22 => 34 | 24 => 62 | 25 => 79 | 3 => 3 | 39 => 97 | 0 => 0 | 53 => 109 | 55 => 111 | 4 => 4 | 46 => 103 | 45 => 102 | 50 => 75 | 5 => 5 | 9 => 9 | 66 => 112 | 70 => 116 | 76 => 120 | 77 => 121 | n => n, fun | n => n⟩
theorem sortEditL : Go.Proofs.SlLaysF0.n6 Try.prog sortEditL_ren := {
  mixed := by kernel_rfl
  f6 := ⟨Try.f58.name, by decide, Try.func58.trans (congrArg some (by kernel_rfl))⟩
  f14 := ⟨Try.f76.name, by decide, Try.func76.trans (congrArg some (by kernel_rfl))⟩
  f15 := Try.func77.trans (congrArg some (by kernel_rfl))
  f20 := ⟨Try.f87.name, by decide, Try.func87.trans (congrArg some (by kernel_rfl))⟩
  f21 := ⟨Try.f88.name, by decide, Try.func88.trans (congrArg some (by kernel_rfl))⟩
  f22 := ⟨Try.f89.name, by decide, Try.func89.trans (congrArg some (by kernel_rfl))⟩
  f23 := ⟨Try.f90.name, by decide, Try.func90.trans (congrArg some (by kernel_rfl))⟩
  f24 := ⟨Try.f91.name, by decide, Try.func91.trans (congrArg some (by kernel_rfl))⟩
  f25 := ⟨Try.f92.name, by decide, Try.func92.trans (congrArg some (by kernel_rfl))⟩
  f26 := ⟨Try.f93.name, by decide, Try.func93.trans (congrArg some (by kernel_rfl))⟩
  f27 := ⟨Try.f94.name, by decide, Try.func94.trans (congrArg some (by kernel_rfl))⟩
  f28 := Try.func95.trans (congrArg some (by kernel_rfl))
  f29 := Try.func96.trans (congrArg some (by kernel_rfl))
  f46 := ⟨Try.f101.name, by decide, Try.func101.trans (congrArg some (by kernel_rfl))⟩
  f47 := Try.func102.trans (congrArg some (by kernel_rfl))
  f48 := Try.func103.trans (congrArg some (by kernel_rfl))
  f49 := ⟨Try.f104.name, by decide, Try.func104.trans (congrArg some (by kernel_rfl))⟩
  f50 := ⟨Try.f105.name, by decide, Try.func105.trans (congrArg some (by kernel_rfl))⟩
  f57 := ⟨Try.f108.name, by decide, Try.func108.trans (congrArg some (by kernel_rfl))⟩
  t0 := Try.underlying0
  a0 := Try.isAgg0
  z0 := Try.sizeOf0
  v0 := Try.zeroValue0
  t3 := Try.underlying3
  a3 := Try.isAgg3
  z3 := Try.sizeOf3
  v3 := Try.zeroValue3
  t4 := Try.underlying4
  a4 := Try.isAgg4
  z4 := Try.sizeOf4
  v4 := Try.zeroValue4
  t5 := Try.underlying5
  a5 := Try.isAgg5
  z5 := Try.sizeOf5
  v5 := Try.zeroValue5
  t9 := Try.underlying9
  a9 := Try.isAgg9
  z9 := Try.sizeOf9
  v9 := Try.zeroValue9
  t22 := Try.underlying34
  a22 := Try.isAgg34
  z22 := Try.sizeOf34
  v22 := Try.zeroValue34
  t25 := Try.underlying79
  a25 := Try.isAgg79
  z25 := Try.sizeOf79
  v25 := Try.zeroValue79
  t39 := Try.underlying97
  a39 := Try.isAgg97
  z39 := Try.sizeOf97
  v39 := Try.zeroValue97
  t45 := Try.underlying102
  a45 := Try.isAgg102
  z45 := Try.sizeOf102
  v45 := Try.zeroValue102
  t46 := Try.underlying103
  a46 := Try.isAgg103
  z46 := Try.sizeOf103
  v46 := Try.zeroValue103
  t50 := Try.underlying75
  a50 := Try.isAgg75
  z50 := Try.sizeOf75
  v50 := Try.zeroValue75
  t53 := Try.underlying109
  a53 := Try.isAgg109
  z53 := Try.sizeOf109
  v53 := Try.zeroValue109
  t55 := Try.underlying111
  a55 := Try.isAgg111
  z55 := Try.sizeOf111
  v55 := Try.zeroValue111
  t66 := Try.underlying112
  a66 := Try.isAgg112
  z66 := Try.sizeOf112
  v66 := Try.zeroValue112
  t70 := Try.underlying116
  a70 := Try.isAgg116
  z70 := Try.sizeOf116
  v70 := Try.zeroValue116
  t76 := Try.underlying120
  a76 := Try.isAgg120
  z76 := Try.sizeOf120
  v76 := Try.zeroValue120
  t77 := Try.underlying121
  a77 := Try.isAgg121
  z77 := Try.sizeOf121
  v77 := Try.zeroValue121 }
instance : Inhabited S62 := ⟨z62⟩
def encD (x : S62) : List Value := [.string x.f0, .int .i64 x.f1, .bool x.f2]
theorem encD_len (x : S62) : (encD x).length = 3 := rfl
theorem ediM {w : World} {base : Nat} {ok : Nat → Prop} {x : S62} {cs : List Value} : k62.M w base ok x cs ↔ cs = encD x :=
  ⟨fun h => k62_openM h, fun h => by rw [h]; exact k62_mkM w base ok x⟩
theorem encD_one : ∀ x : S62, ∀ v ∈ encD x, v.oneCell' = true := by
  intro x v hv
  simp only [encD, List.mem_cons, List.mem_nil_iff, or_false] at hv
  rcases hv with rfl | rfl | rfl <;> rfl
def cmpE (x y : S62) : Int := cmpB x.f0 y.f0
theorem ltE (x y : S62) : Go.Proofs.ltOf cmpE x y = sblt x.f0 y.f0 := by
  unfold Go.Proofs.ltOf
  rw [Bool.eq_iff_iff, decide_eq_true_eq]
  unfold cmpE cmpB sblt
  rw [cmp_lt, ByteArray.toList_eq, ByteArray.toList_eq]
theorem sblt_ntr {x y z : ByteArray} (h1 : sblt x y = false) (h2 : sblt y z = false) : sblt x z = false := by
  cases h3 : sblt x z with
  | false => rfl
  | true =>
    cases h4 : sblt y x with
    | true => rw [sblt_trans h4 h3] at h2; cases h2
    | false =>
      obtain rfl := sblt_tri h1 h4
      rw [h3] at h2
      cases h2
theorem swoE : Go.Sort.SWO (Go.Proofs.ltOf cmpE) := by
  refine ⟨fun x => ?_, fun x y z h1 h2 => ?_, fun x y z h1 h2 => ?_⟩
  · rw [ltE]; exact sblt_irrefl _
  · rw [ltE] at *; exact sblt_trans h1 h2
  · rw [ltE] at *; exact sblt_ntr h1 h2
def sortE (l : List S62) : List S62 := (Go.Sort.pdq (Go.Proofs.ltOf cmpE) l.toArray 0 l.toArray.size (Go.Lib.bitLen l.toArray.size) true true).toList
theorem sortE_is (l : List S62) : (sortE l).Perm l ∧ (sortE l).Pairwise (fun a b => sblt b.f0 a.f0 = false) := by
  obtain ⟨⟨hs, _, hp⟩, ho⟩ := Go.Sort.pdq_sorts (Go.Proofs.ltOf cmpE) swoE l.toArray 0 l.toArray.size (Go.Lib.bitLen l.toArray.size) true true (Nat.zero_le _) (Nat.le_refl _) (Or.inl rfl)
  have e1 : ∀ a : Array S62, a.size = l.toArray.size → a.extract 0 l.toArray.size = a := fun a h => by rw [← h]; exact Array.extract_size
  rw [e1 _ hs, e1 _ rfl] at hp
  refine ⟨hp, ?_⟩
  rw [List.pairwise_iff_getElem]
  intro i j hi hj hij
  have hi' : i < (Go.Sort.pdq (Go.Proofs.ltOf cmpE) l.toArray 0 l.toArray.size (Go.Lib.bitLen l.toArray.size) true true).size := by simpa [sortE] using hi
  have hj' : j < (Go.Sort.pdq (Go.Proofs.ltOf cmpE) l.toArray 0 l.toArray.size (Go.Lib.bitLen l.toArray.size) true true).size := by simpa [sortE] using hj
  have h := ho i j (Nat.zero_le _) hij (by rw [← hs]; exact hj')
  rw [ltE, getElem!_pos _ i hi', getElem!_pos _ j hj'] at h
  simpa [sortE] using h
theorem sortE_len (l : List S62) : (sortE l).length = l.length := (sortE_is l).1.length_eq
theorem flat_get {α : Type} {enc : α → List Value} {k : Nat} (hk : ∀ x, (enc x).length = k) (hk0 : 0 < k) (l : List α) (t : Nat) (ht : t < l.length * k) : (l.flatMap enc)[t]? = (enc (l[t / k]'(Nat.div_lt_of_lt_mul (by rw [Nat.mul_comm]; exact ht))))[t % k]? := by
  have hq : t / k < l.length := Nat.div_lt_of_lt_mul (by rw [Nat.mul_comm]; exact ht)
  have hr : t % k < k := Nat.mod_lt _ hk0
  have e : t = t / k * k + t % k := by rw [Nat.mul_comm]; exact (Nat.div_add_mod t k).symm
  have e2 : (l.flatMap enc)[t]? = ((l.flatMap enc).drop (t / k * k))[t % k]? := by rw [List.getElem?_drop, ← e]
  rw [e2, flat_drop hk, List.drop_eq_getElem_cons hq, List.flatMap_cons, List.getElem?_append_left (by rw [hk]; exact hr)]
theorem flatK_is (l : List S62) : (Go.Sort.flatK encD 3 l.toArray).toList = l.flatMap encD := by
  apply List.ext_getElem?
  intro t
  by_cases ht : t < l.length * 3
  · have hq : t / 3 < l.length := by omega
    rw [flat_get encD_len (by decide) l t ht]
    have hr : t % 3 < (encD l[t / 3]).length := by rw [encD_len]; omega
    rw [List.getElem?_eq_getElem hr]
    simp only [Go.Sort.flatK, Array.getElem?_toList, Array.getElem?_map]
    rw [Array.getElem?_range, if_pos (by simpa using ht), Option.map_some, getElem!_pos _ (t / 3) (by simpa using hq), getElem!_pos _ (t % 3) (by simpa using hr)]
    rfl
  · rw [List.getElem?_eq_none (by simpa using Nat.not_lt.mp ht), List.getElem?_eq_none (by rw [flat_len encD_len]; omega)]
theorem holdsE {w : World} {g : Nat} {cur : Array Value} {e : TypeId} {l : List S62} (hb : w.heap[g]? = some (.cells cur e (0, 0))) (ht : cur.toList.take (l.length * 3) = l.flatMap encD) : Go.Sort.HoldsK encD 3 w g 0 l.toArray := by
  intro j hj
  have hj' : j < l.length * 3 := by simpa using hj
  refine ⟨?_, by simp [World.frozen?, hb]⟩
  have h1 : (cur.toList.take (l.length * 3))[j]? = (Go.Sort.flatK encD 3 l.toArray).toList[j]? := by rw [ht, flatK_is]
  rw [List.getElem?_take_of_lt hj', Array.getElem?_toList, Array.getElem?_toList, Array.getElem?_eq_getElem hj] at h1
  rw [getElem!_pos _ j hj]
  simp only [World.cell?, hb, Nat.zero_add]
  simp only [Option.isSome_none, Bool.false_eq_true, if_false]
  rw [h1]
  rfl
theorem heapE {w : World} {g n : Nat} {os : Array Obj} {cur : Array Value} {e : TypeId} {fr : Nat × Nat} (d : Array S62) (hb : w.heap[g]? = some (.cells cur e fr)) :
    (Go.Proofs.sortWorldK encD 3 w g 0 n d os).heap[g]? = some (.cells (Go.Sort.putCells id 0 (Go.Sort.flatK encD 3 d) cur) e fr) := by
  have hg : g < w.heap.size := (Array.getElem?_eq_some_iff.1 hb).1
  unfold Go.Proofs.sortWorldK Go.Sort.putRowK
  rw [Go.Sort.heap_grow_old _ _ (by simpa [Go.Sort.ahead] using hg)]
  simp [Go.Sort.putRow, Go.Sort.mapBlock, Go.Sort.ahead, Array.getElem?_modify, hb, Go.Sort.onCells]
theorem grownE {w : World} {g n : Nat} {os : Array Obj} (d : Array S62) : w.grownBy (Go.Proofs.sortWorldK encD 3 w g 0 n d os) (some g) := by
  unfold Go.Proofs.sortWorldK Go.Sort.putRowK
  refine ⟨rfl, rfl, rfl, by simp [Go.Sort.ahead], fun k hk hne => ?_⟩
  rw [Go.Sort.heap_grow_old _ _ (by simpa [Go.Sort.ahead] using hk)]
  have : g ≠ k := fun e => hne (by rw [e])
  simp [Go.Sort.putRow, Go.Sort.mapBlock, Go.Sort.ahead, Array.getElem?_modify, this]
theorem takeE (cur : Array Value) (l : List S62) (h : l.length * 3 ≤ cur.size) : (Go.Sort.putCells id 0 (Go.Sort.flatK encD 3 l.toArray) cur).toList.take (l.length * 3) = l.flatMap encD := by
  rw [← flatK_is]
  apply List.ext_getElem?
  intro j
  by_cases hj : j < l.length * 3
  · have hj2 : j < (Go.Sort.flatK encD 3 l.toArray).size := by simpa using hj
    rw [List.getElem?_take_of_lt hj, Array.getElem?_toList, Array.getElem?_toList, Array.getElem?_eq_getElem hj2]
    simp only [Go.Sort.putCells, Array.getElem?_mapIdx]
    rw [Array.getElem?_eq_getElem (show j < cur.size by omega), Option.map_some, if_pos ⟨Nat.zero_le _, by omega⟩, Nat.sub_zero, getElem!_pos _ j hj2]
    rfl
  · rw [List.getElem?_take_eq_none (by omega), List.getElem?_eq_none (by simp; omega)]
end Go.Proofs.Ytblejbgkcgajgaa.Q
end

section
namespace Go.Proofs.Ytblejbgkcgajgaa.Q
open Go.RowKit Go.Proofs.YtblejbgkcgajgaaW.PrintWords Go.Proofs.YtblejbgkcgajgaaW.PrintLast Go.Proofs.YtblejbgkcgajgaaW.PrintMore
attribute [local go_sem] max2_int min2_int max_two min_two max_three min_three max_four min_four   -- for this text's walks alone
set_option linter.unusedVariables false
set_option linter.unusedSimpArgs false
attribute [local go_sem] bin_leq bin_gtr bin_geq
def sort_Edit.f (l0 : List (S62)) : Option (List (S62)) := if l0.length < 4611686018427387904 then some (sortE l0) else none
theorem cmp_calls (x y : S62) (W : World) : Calls Try.prog 59 #[.agg #[.string x.f0, .int .i64 x.f1, .bool x.f2], .agg #[.string y.f0, .int .i64 y.f1, .bool y.f2]] W fun e w' => e = .returned (.int .i64 (cmpE x y)) ∧ ∃ q os', w' = Go.Sort.grow (W.drewN q) os' := by
  have A2 := Aside0.mk (show strings_Compare.f x.f0 y.f0 = some (cmpE x y) from rfl)
  generalize cmpE x y = r at A2 ⊢
  go_enter Try.func59, Try.ntmps59
  go_wp2_with (go_at_call 60; (with_reducible refine (strings_Compare.calls _ _ _ _ A2.out).mono ?_); rintro e w' ⟨rfl, ⟨n, rfl⟩⟩)
  go_ret
  exact ⟨rfl, _, _, by rw [Go.Sort.alloc_eq_grow, Go.Sort.alloc_eq_grow, Go.Sort.grow_grow]; rfl⟩
theorem sort_Edit.calls (P0_ : Nat → Prop) (u9000_ : Value) (l0 : List (S62)) (r : List (S62)) (w0 w : World) (hB : Below w0.heap.size w0 w) (ho0 : Kd.R k62 62 w w0.heap.size P0_ u9000_ l0) (h : sort_Edit.f l0 = some r) :
    Calls Try.prog 58 #[u9000_, .func (.func 59) #[] #[]] w fun e w' => e = .returned (.tuple #[]) ∧ Kd.R k62 62 w' w0.heap.size (fun k_ => (P0_ k_ ∨ w.heap.size ≤ k_)) u9000_ r ∧ Below w0.heap.size w0 w' ∧ Kept w w' (fun k_ => P0_ k_) := by
  unfold sort_Edit.f at h
  by_cases hlen : l0.length < 4611686018427387904
  case neg => rw [if_neg hlen] at h; cases h
  rw [if_pos hlen] at h
  obtain rfl := Option.some.inj h
  clear h
  by_cases hp : 0 < l0.length
  · obtain ⟨g, cap, cur, rfl, hbg, hok, hg, hn, hm, hs, ht⟩ := flatR_open (enc := encD) ediM encD_len rfl ho0 hp
    have hblk : g < w.heap.size := blk_lt hg
    refine (Go.Proofs.AnyQ.slices_SortFunc_eq sortEditL 3 Try.isAgg62 Try.sizeOf62 encD encD_len encD_one cmpE swoE 59 #[] g 0 cap l0.toArray w (enters_ Try.func59 (by kernel_rfl) rfl) (fun m os dk _ x y => cmp_calls x y _) (holdsE hg ht) hblk hlen).mono ?_
    rintro e w' ⟨rfl, n, os, rfl⟩
    have hl : (sortE l0).length = l0.length := sortE_len l0
    refine ⟨rfl, ?_, Below.grown hB (grownE _) hB.size (fun k hk => by injection hk with hk; rw [← hk]; exact hbg), ?_⟩
    · refine flatR_mk (enc := encD) ediM encD_len rfl hl.symm hbg (.inl hok) (heapE _ hg) hn hm (by rw [Go.Sort.putCells, Array.size_mapIdx]; exact hs) ?_
      have e1 : Go.Sort.pdq (Go.Proofs.ltOf cmpE) l0.toArray 0 l0.toArray.size (Go.Lib.bitLen l0.toArray.size) true true = (sortE l0).toArray := by simp [sortE]
      rw [e1, ← hl]
      exact takeE cur (sortE l0) (by rw [hl, hs]; exact Nat.mul_le_mul_right 3 hn)
    · obtain ⟨_, _, _, gs, gb⟩ := grownE (w := w) (g := g) (n := n) (os := os) (Go.Sort.pdq (Go.Proofs.ltOf cmpE) l0.toArray 0 l0.toArray.size (Go.Lib.bitLen l0.toArray.size) true true)
      exact ⟨gs, fun k hk hS => gb k hk (fun e_ => hS (by injection e_ with e_; rw [e_]; exact hok))⟩
  · have h0 : l0 = [] := List.eq_nil_of_length_eq_zero (by omega)
    subst h0
    obtain ⟨A, c, rfl⟩ := Kd.R_slice ho0
    refine (Go.Proofs.AnyF.slices_SortFunc_none { sortEditL with } A c _ w).mono ?_
    rintro e w' ⟨rfl, rfl⟩
    have e0 : sortE [] = [] := List.eq_nil_of_length_eq_zero (by rw [sortE_len]; rfl)
    rw [e0]
    exact ⟨rfl, Kd.R_mono ho0 (fun _ hk => .inl hk), hB, Kept.refl _ _⟩
end Go.Proofs.Ytblejbgkcgajgaa.Q
end

section
namespace Go.Proofs.Ytblejbgkcgajgaa.Q
open Go.RowKit Go.Proofs.YtblejbgkcgajgaaW.PrintWords Go.Proofs.YtblejbgkcgajgaaW.PrintLast Go.Proofs.YtblejbgkcgajgaaW.PrintMore
attribute [local go_sem] max2_int min2_int max_two min_two max_three min_three max_four min_four   -- for this text's walks alone
set_option linter.unusedVariables false
set_option linter.unusedSimpArgs false
attribute [local go_sem] bin_leq bin_gtr bin_geq
mutual
def impl_diff.l0 : Nat → List (S55) → List (S55) → List (S62) → List (S55) → Int → Int → Option ((List (S62)))
  | 0, _, _, _, _, _, _ => none
  | k + 1, x0, x1, x5, x14, x15, x16 => if x16 < x15 then (if 0 ≤ x16 then (if x16 < (x14.length : Int) then ((impl_find.f x0 ((rd_T55 x14 x16).f0)).bind fun bt181 => (if bt181.2 = true then (if 0 ≤ bt181.1 then (if bt181.1 < (x0.length : Int) then (if ((rd_T55 x0 bt181.1).f1) = ((rd_T55 x14 x16).f1) then (impl_diff.l0 k x0 x1 x5 x14 x15 (wrap64 (x16 + 1))) else (if x5.length < 4398046511104 then (impl_diff.l0 k x0 x1 (x5 ++ [(⟨(rd_T55 x14 x16).f0, (rd_T55 x14 x16).f1, false⟩ : S62)]) x14 x15 (wrap64 (x16 + 1))) else (none))) else (none)) else (none)) else (if x5.length < 4398046511104 then (impl_diff.l0 k x0 x1 (x5 ++ [(⟨(rd_T55 x14 x16).f0, (rd_T55 x14 x16).f1, false⟩ : S62)]) x14 x15 (wrap64 (x16 + 1))) else (none)))) else (none)) else (none)) else (impl_diff.l1 k x1 x5 x0 (x0.length : Int) 0)
def impl_diff.l1 : Nat → List (S55) → List (S62) → List (S55) → Int → Int → Option ((List (S62)))
  | 0, _, _, _, _, _ => none
  | k + 1, x1, x5, x48, x49, x50 => if x50 < x49 then (if 0 ≤ x50 then (if x50 < (x48.length : Int) then ((impl_find.f x1 ((rd_T55 x48 x50).f0)).bind fun bt192 => (if bt192.2 = true then (impl_diff.l1 k x1 x5 x48 x49 (wrap64 (x50 + 1))) else (if x5.length < 4398046511104 then (impl_diff.l1 k x1 (x5 ++ [(⟨(rd_T55 x48 x50).f0, 0, true⟩ : S62)]) x48 x49 (wrap64 (x50 + 1))) else (none)))) else (none)) else (none)) else ((sort_Edit.f x5).bind fun t197 => (some t197))
end
def impl_diff.f (k : Nat) (l0 : List (S55)) (l1 : List (S55)) : Option ((List (S62))) := impl_diff.l0 k l0 l1 ([] : List (S62)) l1 (l1.length : Int) 0
set_option maxHeartbeats 8000000 in
set_option maxRecDepth 100000 in
theorem impl_diff.calls (k : Nat) (A0 : Option Addr) (c0 : Nat) (l0 : List (S55)) (A1 : Option Addr) (c1 : Nat) (l1 : List (S55)) (r : List (S62)) (w : World) (hr0 : Kd.C k55 w A0 l0.length l0) (hc0 : l0.length ≤ c0) (hr1 : Kd.C k55 w A1 l1.length l1) (hc1 : l1.length ≤ c1) (h : impl_diff.f k l0 l1 = some r) :
    Calls Try.prog 38 #[.slice A0 l0.length c0, .slice A1 l1.length c1] w fun e w' => ∃ v0_ : Value, e = .returned (v0_) ∧ Kd.R k62 62 w' w.heap.size (fun _ => True) v0_ r ∧ Below w.heap.size w w' := by
  have hu55 := Try.underlying55
  have hu62 := Try.underlying62
  have HR0 := Aside0.mk hr0
  have HC0 := Aside0.mk hc0
  clear hr0 hc0
  have HR1 := Aside0.mk hr1
  have HC1 := Aside0.mk hc1
  clear hr1 hc1
  have HB := Aside0.mk (Below.refl w.heap.size w)
  have H : (impl_diff.l0 k l0 l1 ([] : List (S62)) l1 (l1.length : Int) 0) = some r := h
  clear h
  have H' := Aside0.mk H
  clear H
  go_enter Try.func38, Try.ntmps38
  go_wp2
  go_loopg [5, 16] k (fun kq v5 v16 w' => ∃ (x5_1 : List (S62)) (x16_1 : Int), v16 = .int .i64 x16_1 ∧ Aside0 (impl_diff.l0 kq l0 l1 x5_1 l1 (l1.length : Int) x16_1 = some r) ∧ Aside0 (kq ≤ k) ∧ Aside0 (Kd.R k62 62 w' w.heap.size (fun _ => True) v5 x5_1) ∧ Aside0 (Below w.heap.size w w'))
  case atStart => exact ⟨(([] : List (S62))), (0), vE, H', ⟨Nat.le_refl _⟩, ⟨by exact Kd.R_nil _ _ _ _ _⟩, ⟨bW⟩⟩
  case round =>
    clear H'
    obtain ⟨x5_1, x16_1, rfl, HA, HK1, HO_5, HB⟩ := hrel
    cases gk with
    | zero => exact absurd HA.out (by simp [impl_diff.l0])
    | succ k1 =>
      have H := HA.out
      clear HA
      simp only [impl_diff.l0] at H
      by_cases c3 : x16_1 < (l1.length : Int)
      · rw [if_pos c3] at H
        have c3b0 : decide (x16_1 < (l1.length : Int)) = true := decide_eq_true c3
        clear c3
        by_cases c4 : 0 ≤ x16_1
        · rw [if_pos c4] at H
          have c4b0 : decide (0 ≤ x16_1) = true := decide_eq_true c4
          clear c4
          by_cases c5 : x16_1 < (l1.length : Int)
          · rw [if_pos c5] at H
            have c5b0 : decide (x16_1 < (l1.length : Int)) = true := decide_eq_true c5
            clear c5
            replace H := Option.bind_eq_some_iff.mp H
            obtain ⟨⟨t181, t182⟩, A60, H⟩ := H
            replace H : (if t182 = true then (if 0 ≤ t181 then (if t181 < (l0.length : Int) then (if ((rd_T55 l0 t181).f1) = ((rd_T55 l1 x16_1).f1) then (impl_diff.l0 k1 l0 l1 x5_1 l1 (l1.length : Int) (wrap64 (x16_1 + 1))) else (if x5_1.length < 4398046511104 then (impl_diff.l0 k1 l0 l1 (x5_1 ++ [(⟨(rd_T55 l1 x16_1).f0, (rd_T55 l1 x16_1).f1, false⟩ : S62)]) l1 (l1.length : Int) (wrap64 (x16_1 + 1))) else (none))) else (none)) else (none)) else (if x5_1.length < 4398046511104 then (impl_diff.l0 k1 l0 l1 (x5_1 ++ [(⟨(rd_T55 l1 x16_1).f0, (rd_T55 l1 x16_1).f1, false⟩ : S62)]) l1 (l1.length : Int) (wrap64 (x16_1 + 1))) else (none))) = some r := H
            have A6 := Aside0.mk A60
            clear A60
            by_cases c7 : t182 = true
            · subst c7
              have H1 : (if 0 ≤ t181 then (if t181 < (l0.length : Int) then (if ((rd_T55 l0 t181).f1) = ((rd_T55 l1 x16_1).f1) then (impl_diff.l0 k1 l0 l1 x5_1 l1 (l1.length : Int) (wrap64 (x16_1 + 1))) else (if x5_1.length < 4398046511104 then (impl_diff.l0 k1 l0 l1 (x5_1 ++ [(⟨(rd_T55 l1 x16_1).f0, (rd_T55 l1 x16_1).f1, false⟩ : S62)]) l1 (l1.length : Int) (wrap64 (x16_1 + 1))) else (none))) else (none)) else (none)) = some r := by rw [if_pos rfl] at H; exact H
              clear H
              have H := H1
              clear H1
              by_cases c8 : 0 ≤ t181
              · rw [if_pos c8] at H
                have c8b0 : decide (0 ≤ t181) = true := decide_eq_true c8
                clear c8
                by_cases c9 : t181 < (l0.length : Int)
                · rw [if_pos c9] at H
                  have c9b0 : decide (t181 < (l0.length : Int)) = true := decide_eq_true c9
                  clear c9
                  by_cases c10 : ((rd_T55 l0 t181).f1) = ((rd_T55 l1 x16_1).f1)
                  · rw [if_pos c10] at H
                    have c10b0 : (((rd_T55 l0 t181).f1) == ((rd_T55 l1 x16_1).f1)) = true := beq_iff_eq.mpr c10
                    have c10b1 : (((rd_T55 l0 t181).f1) != ((rd_T55 l1 x16_1).f1)) = false := bne_eq_false_iff_eq.mpr c10
                    clear c10
                    have H' := Aside0.mk H
                    clear H
                    have p179 : 0 ≤ (x16_1 : Int) := odt
                    have q179 : x16_1 < (l1.length : Int) := odt
                    obtain ⟨ad179, e179, hx179_0, hx179_1⟩ := at_T55 HR1.out x16_1 p179 q179
                    cases e179
                    replace hx179_0 := (HB.out.cell (World.block_lt_of_cell? w _ hx179_0)).trans hx179_0
                    replace hx179_1 := (HB.out.cell (World.block_lt_of_cell? w _ hx179_1)).trans hx179_1
                    replace p179 := eq_true p179
                    replace q179 := eq_true q179
                    go_wp2_with (first | ((with_reducible refine gate_dst (N := 7) rfl ?_); refine bE (N := 7) (cs := #[.string (⟨#[]⟩ : ByteArray), .int .i64 0]) (t := 55) ?_; intro gb180 hg w11 hbox hb; have n0_ := Aside0.mk (Kd.R_below (pR HO_5) hb); have n1_ := Aside0.mk (below_step (w := w) bW hb); have n2_ := Aside0.mk (hbox); have n3_ := Aside0.mk (gS (w := w) hg); have n4_ := n3_; clear HO_5; clear HB; have HO_5 := n0_; have HB := n1_; have BK180 := n2_; have GW180 := n3_; have GE180 := n4_; clear n0_ n1_ n2_ n3_ n4_; clear hb hbox hg; obtain ⟨hcz12_0, hcz12_1⟩ := cz2 BK180; obtain ⟨hfz12_0, hfz12_1⟩ := fz2 BK180) | (go_at_call 57; (with_reducible refine (impl_find.calls _ _ l0 ((rd_T55 l1 x16_1).f0) t181 true _ ?side1 ?side2 A6.out).mono ?_); (case side1 => exact Kd.C_below HR0.out bW); (case side2 => exact HC0.out); rintro e w13 ⟨rfl, hb⟩; have n0_ := Aside0.mk (Kd.R_below (by exact (Kd.R_mono (Kd.R_far (p := ⟨gb180, 1, none⟩) (Kd.R_far (p := ⟨gb180, 0, none⟩) (Kd.R_types HO_5.out BK180.out (by decide)) (fun _ hk => hk.2) (.string ((rd_T55 l1 x16_1).f0))) (fun _ hk => hk.2) (.int .i64 ((rd_T55 l1 x16_1).f1))) (fun _ h_ => h_.1))) hb); have n1_ := Aside0.mk (blk_below (g := gb180) (o := .cells #[.string ((rd_T55 l1 x16_1).f0), .int .i64 ((rd_T55 l1 x16_1).f1)] 55 (0, 0)) (by refine blk_put (cs := #[.string ((rd_T55 l1 x16_1).f0), .int .i64 0]) ?_ 1 _ rfl; refine blk_put (cs := #[.string (⟨#[]⟩ : ByteArray), .int .i64 0]) ?_ 0 _ rfl; exact BK180.out) hb); have n2_ := Aside0.mk (below_step (w := w) bW hb); clear HO_5; clear BK180; clear HB; have HO_5 := n0_; have BK180 := n1_; have HB := n2_; clear n0_ n1_ n2_; (try clear hb); have p183 : 0 ≤ (t181 : Int) := odt; have q183 : t181 < (l0.length : Int) := odt; obtain ⟨ad183, e183, hx183_0, hx183_1⟩ := at_T55 HR0.out t181 p183 q183; cases e183; replace hx183_0 := (HB.out.cell (World.block_lt_of_cell? w _ hx183_0)).trans hx183_0; replace hx183_1 := (HB.out.cell (World.block_lt_of_cell? w _ hx183_1)).trans hx183_1; replace p183 := eq_true p183; replace q183 := eq_true q183; obtain ⟨hcz14_0, hcz14_1⟩ := cz2 BK180; obtain ⟨hfz14_0, hfz14_1⟩ := fz2 BK180))
                    repeat (go_quiet (fail); try go_wp2_with (fail))
                    go_roundg k1
                    case measure => have := HK1.out; omega
                    case rel => exact ⟨(x5_1), (wrap64 (x16_1 + 1)), vE, H', ⟨by have := HK1.out; omega⟩, ⟨by (with_reducible repeat (apply Kd.R_drewN)); exact HO_5.out⟩, ⟨bW⟩⟩
                  · rw [if_neg c10] at H
                    have c10b0 : (((rd_T55 l0 t181).f1) == ((rd_T55 l1 x16_1).f1)) = false := beq_eq_false_iff_ne.mpr c10
                    have c10b1 : (((rd_T55 l0 t181).f1) != ((rd_T55 l1 x16_1).f1)) = true := bne_iff_ne.mpr c10
                    by_cases c15 : x5_1.length < 4398046511104
                    · rw [if_pos c15] at H
                      have LMc15 := Aside0.mk c15
                      clear c15
                      obtain ⟨y184, hy184⟩ : ∃ y_ : List (S62), y_ = (x5_1 ++ [(⟨(rd_T55 l1 x16_1).f0, (rd_T55 l1 x16_1).f1, false⟩ : S62)]) := ⟨_, rfl⟩
                      replace H : (impl_diff.l0 k1 l0 l1 y184 l1 (l1.length : Int) (wrap64 (x16_1 + 1))) = some r := by (rw [hy184]; with_reducible exact H)
                      have Ny184 := Aside0.mk hy184
                      clear hy184
                      have H' := Aside0.mk H
                      clear H
                      have p179 : 0 ≤ (x16_1 : Int) := odt
                      have q179 : x16_1 < (l1.length : Int) := odt
                      obtain ⟨ad179, e179, hx179_0, hx179_1⟩ := at_T55 HR1.out x16_1 p179 q179
                      cases e179
                      replace hx179_0 := (HB.out.cell (World.block_lt_of_cell? w _ hx179_0)).trans hx179_0
                      replace hx179_1 := (HB.out.cell (World.block_lt_of_cell? w _ hx179_1)).trans hx179_1
                      replace p179 := eq_true p179
                      replace q179 := eq_true q179
                      go_wp2_with (first | ((with_reducible refine gate_dst (N := 7) rfl ?_); refine bE (N := 7) (cs := #[.string (⟨#[]⟩ : ByteArray), .int .i64 0]) (t := 55) ?_; intro gb180 hg w16 hbox hb; have n0_ := Aside0.mk (Kd.R_below (pR HO_5) hb); have n1_ := Aside0.mk (below_step (w := w) bW hb); have n2_ := Aside0.mk (hbox); have n3_ := Aside0.mk (gS (w := w) hg); have n4_ := n3_; clear HO_5; clear HB; have HO_5 := n0_; have HB := n1_; have BK180 := n2_; have GW180 := n3_; have GE180 := n4_; clear n0_ n1_ n2_ n3_ n4_; clear hb hbox hg; obtain ⟨hcz17_0, hcz17_1⟩ := cz2 BK180; obtain ⟨hfz17_0, hfz17_1⟩ := fz2 BK180) | (go_at_call 57; (with_reducible refine (impl_find.calls _ _ l0 ((rd_T55 l1 x16_1).f0) t181 true _ ?side1 ?side2 A6.out).mono ?_); (case side1 => exact Kd.C_below HR0.out bW); (case side2 => exact HC0.out); rintro e w18 ⟨rfl, hb⟩; have n0_ := Aside0.mk (Kd.R_below (by exact (Kd.R_mono (Kd.R_far (p := ⟨gb180, 1, none⟩) (Kd.R_far (p := ⟨gb180, 0, none⟩) (Kd.R_types HO_5.out BK180.out (by decide)) (fun _ hk => hk.2) (.string ((rd_T55 l1 x16_1).f0))) (fun _ hk => hk.2) (.int .i64 ((rd_T55 l1 x16_1).f1))) (fun _ h_ => h_.1))) hb); have n1_ := Aside0.mk (blk_below (g := gb180) (o := .cells #[.string ((rd_T55 l1 x16_1).f0), .int .i64 ((rd_T55 l1 x16_1).f1)] 55 (0, 0)) (by refine blk_put (cs := #[.string ((rd_T55 l1 x16_1).f0), .int .i64 0]) ?_ 1 _ rfl; refine blk_put (cs := #[.string (⟨#[]⟩ : ByteArray), .int .i64 0]) ?_ 0 _ rfl; exact BK180.out) hb); have n2_ := Aside0.mk (below_step (w := w) bW hb); clear HO_5; clear BK180; clear HB; have HO_5 := n0_; have BK180 := n1_; have HB := n2_; clear n0_ n1_ n2_; (try clear hb); have p183 : 0 ≤ (t181 : Int) := odt; have q183 : t181 < (l0.length : Int) := odt; obtain ⟨ad183, e183, hx183_0, hx183_1⟩ := at_T55 HR0.out t181 p183 q183; cases e183; replace hx183_0 := (HB.out.cell (World.block_lt_of_cell? w _ hx183_0)).trans hx183_0; replace hx183_1 := (HB.out.cell (World.block_lt_of_cell? w _ hx183_1)).trans hx183_1; replace p183 := eq_true p183; replace q183 := eq_true q183; obtain ⟨hcz19_0, hcz19_1⟩ := cz2 BK180; obtain ⟨hfz19_0, hfz19_1⟩ := fz2 BK180))
                      repeat (go_quiet (fail); try go_wp2_with (((with_reducible refine gate_builtin (b := .append) (xs := #[.tmp 39, .tmp 45]) rfl ?_); at_builtin; refine Kd.R_append k62 (w0 := w) w.heap.size rfl (.tmp 39) (.tmp 45) 34 62 (.agg #[(.string ⟨#[]⟩), (.int .i64 0), (.bool false)]) 32 rfl Try.underlying34 info62 rfl (by decide) (by omega) u5 x5_1 (⟨(rd_T55 l1 x16_1).f0, (rd_T55 l1 x16_1).f1, false⟩ : S62) [.string ((rd_T55 l1 x16_1).f0), .int .i64 ((rd_T55 l1 x16_1).f1), .bool false] (fun _ => True) (fun _ => False) rfl rfl ?aP (fun _ hk => hk.elim) ?aF ?aO ?aB ?aS ?aL ?_; (case aP => exact k62_mkM _ _ _ (⟨(rd_T55 l1 x16_1).f0, (rd_T55 l1 x16_1).f1, false⟩ : S62)); (case aB => exact bW); (case aF => exact (fun _ _ => trivial)); (case aO => exact (pR HO_5)); (case aS => exact (below_size (w := w) bW)); (case aL => have := LMc15.out; omega); intro v185 w20 ho hb hg hat; rw [← Ny184.out] at ho; have n0_ := Aside0.mk (blk_grown (g := gb180) (o := .cells #[.string ((rd_T55 l1 x16_1).f0), .int .i64 ((rd_T55 l1 x16_1).f1)] 55 (0, 0)) (kB BK180) hg (Kd.R_ne HO_5.out BK180.out (by decide))); have n1_ := Aside0.mk (hb); have n2_ := Aside0.mk (ho); clear BK180; clear HB; clear HO_5; have BK180 := n0_; have HB := n1_; have HO186 := n2_; clear n0_ n1_ n2_; clear ho hb hg hat)))
                      go_roundg k1
                      case measure => have := HK1.out; omega
                      case rel => exact ⟨(y184), (wrap64 (x16_1 + 1)), vE, H', ⟨by have := HK1.out; omega⟩, ⟨by exact HO186.out⟩, ⟨bW⟩⟩
                    · rw [if_neg c15] at H
                      exact absurd H (by simp)
                · rw [if_neg c9] at H
                  exact absurd H (by simp)
              · rw [if_neg c8] at H
                exact absurd H (by simp)
            · replace c7 := Bool.eq_false_iff.mpr c7
              subst c7
              have H1 : (if x5_1.length < 4398046511104 then (impl_diff.l0 k1 l0 l1 (x5_1 ++ [(⟨(rd_T55 l1 x16_1).f0, (rd_T55 l1 x16_1).f1, false⟩ : S62)]) l1 (l1.length : Int) (wrap64 (x16_1 + 1))) else (none)) = some r := by rw [if_neg (show ¬ (false = true) by decide)] at H; exact H
              clear H
              have H := H1
              clear H1
              by_cases c21 : x5_1.length < 4398046511104
              · rw [if_pos c21] at H
                have LMc21 := Aside0.mk c21
                clear c21
                obtain ⟨y187, hy187⟩ : ∃ y_ : List (S62), y_ = (x5_1 ++ [(⟨(rd_T55 l1 x16_1).f0, (rd_T55 l1 x16_1).f1, false⟩ : S62)]) := ⟨_, rfl⟩
                replace H : (impl_diff.l0 k1 l0 l1 y187 l1 (l1.length : Int) (wrap64 (x16_1 + 1))) = some r := by (rw [hy187]; with_reducible exact H)
                have Ny187 := Aside0.mk hy187
                clear hy187
                have H' := Aside0.mk H
                clear H
                have p179 : 0 ≤ (x16_1 : Int) := odt
                have q179 : x16_1 < (l1.length : Int) := odt
                obtain ⟨ad179, e179, hx179_0, hx179_1⟩ := at_T55 HR1.out x16_1 p179 q179
                cases e179
                replace hx179_0 := (HB.out.cell (World.block_lt_of_cell? w _ hx179_0)).trans hx179_0
                replace hx179_1 := (HB.out.cell (World.block_lt_of_cell? w _ hx179_1)).trans hx179_1
                replace p179 := eq_true p179
                replace q179 := eq_true q179
                go_wp2_with (first | ((with_reducible refine gate_dst (N := 7) rfl ?_); refine bE (N := 7) (cs := #[.string (⟨#[]⟩ : ByteArray), .int .i64 0]) (t := 55) ?_; intro gb180 hg w22 hbox hb; have n0_ := Aside0.mk (Kd.R_below (pR HO_5) hb); have n1_ := Aside0.mk (below_step (w := w) bW hb); have n2_ := Aside0.mk (hbox); have n3_ := Aside0.mk (gS (w := w) hg); have n4_ := n3_; clear HO_5; clear HB; have HO_5 := n0_; have HB := n1_; have BK180 := n2_; have GW180 := n3_; have GE180 := n4_; clear n0_ n1_ n2_ n3_ n4_; clear hb hbox hg; obtain ⟨hcz23_0, hcz23_1⟩ := cz2 BK180; obtain ⟨hfz23_0, hfz23_1⟩ := fz2 BK180) | (go_at_call 57; (with_reducible refine (impl_find.calls _ _ l0 ((rd_T55 l1 x16_1).f0) t181 false _ ?side1 ?side2 A6.out).mono ?_); (case side1 => exact Kd.C_below HR0.out bW); (case side2 => exact HC0.out); rintro e w24 ⟨rfl, hb⟩; have n0_ := Aside0.mk (Kd.R_below (by exact (Kd.R_mono (Kd.R_far (p := ⟨gb180, 1, none⟩) (Kd.R_far (p := ⟨gb180, 0, none⟩) (Kd.R_types HO_5.out BK180.out (by decide)) (fun _ hk => hk.2) (.string ((rd_T55 l1 x16_1).f0))) (fun _ hk => hk.2) (.int .i64 ((rd_T55 l1 x16_1).f1))) (fun _ h_ => h_.1))) hb); have n1_ := Aside0.mk (blk_below (g := gb180) (o := .cells #[.string ((rd_T55 l1 x16_1).f0), .int .i64 ((rd_T55 l1 x16_1).f1)] 55 (0, 0)) (by refine blk_put (cs := #[.string ((rd_T55 l1 x16_1).f0), .int .i64 0]) ?_ 1 _ rfl; refine blk_put (cs := #[.string (⟨#[]⟩ : ByteArray), .int .i64 0]) ?_ 0 _ rfl; exact BK180.out) hb); have n2_ := Aside0.mk (below_step (w := w) bW hb); clear HO_5; clear BK180; clear HB; have HO_5 := n0_; have BK180 := n1_; have HB := n2_; clear n0_ n1_ n2_; (try clear hb); obtain ⟨hcz25_0, hcz25_1⟩ := cz2 BK180; obtain ⟨hfz25_0, hfz25_1⟩ := fz2 BK180))
                repeat (go_quiet (fail); try go_wp2_with (((with_reducible refine gate_builtin (b := .append) (xs := #[.tmp 39, .tmp 45]) rfl ?_); at_builtin; refine Kd.R_append k62 (w0 := w) w.heap.size rfl (.tmp 39) (.tmp 45) 34 62 (.agg #[(.string ⟨#[]⟩), (.int .i64 0), (.bool false)]) 32 rfl Try.underlying34 info62 rfl (by decide) (by omega) u5 x5_1 (⟨(rd_T55 l1 x16_1).f0, (rd_T55 l1 x16_1).f1, false⟩ : S62) [.string ((rd_T55 l1 x16_1).f0), .int .i64 ((rd_T55 l1 x16_1).f1), .bool false] (fun _ => True) (fun _ => False) rfl rfl ?aP (fun _ hk => hk.elim) ?aF ?aO ?aB ?aS ?aL ?_; (case aP => exact k62_mkM _ _ _ (⟨(rd_T55 l1 x16_1).f0, (rd_T55 l1 x16_1).f1, false⟩ : S62)); (case aB => exact bW); (case aF => exact (fun _ _ => trivial)); (case aO => exact (pR HO_5)); (case aS => exact (below_size (w := w) bW)); (case aL => have := LMc21.out; omega); intro v188 w26 ho hb hg hat; rw [← Ny187.out] at ho; have n0_ := Aside0.mk (blk_grown (g := gb180) (o := .cells #[.string ((rd_T55 l1 x16_1).f0), .int .i64 ((rd_T55 l1 x16_1).f1)] 55 (0, 0)) (kB BK180) hg (Kd.R_ne HO_5.out BK180.out (by decide))); have n1_ := Aside0.mk (hb); have n2_ := Aside0.mk (ho); clear BK180; clear HB; clear HO_5; have BK180 := n0_; have HB := n1_; have HO189 := n2_; clear n0_ n1_ n2_; clear ho hb hg hat)))
                go_roundg k1
                case measure => have := HK1.out; omega
                case rel => exact ⟨(y187), (wrap64 (x16_1 + 1)), vE, H', ⟨by have := HK1.out; omega⟩, ⟨by exact HO189.out⟩, ⟨bW⟩⟩
              · rw [if_neg c21] at H
                exact absurd H (by simp)
          · rw [if_neg c5] at H
            exact absurd H (by simp)
        · rw [if_neg c4] at H
          exact absurd H (by simp)
      · rw [if_neg c3] at H
        have c3b0 : decide (x16_1 < (l1.length : Int)) = false := decide_eq_false c3
        clear c3
        have H' := Aside0.mk H
        clear H
        go_wp2
        go_loopg [5, 50] k1 (fun kq v5 v50 w' => ∃ (x5_2 : List (S62)) (x50_2 : Int), v50 = .int .i64 x50_2 ∧ Aside0 (impl_diff.l1 kq l1 x5_2 l0 (l0.length : Int) x50_2 = some r) ∧ Aside0 (kq ≤ k1) ∧ Aside0 (Kd.R k62 62 w' w.heap.size (fun _ => True) v5 x5_2) ∧ Aside0 (Below w.heap.size w w'))
        case atStart => exact ⟨(x5_1), (0), vE, H', ⟨Nat.le_refl _⟩, ⟨by exact HO_5.out⟩, ⟨bW⟩⟩
        case round =>
          clear H'
          try clear c3b0
          obtain ⟨x5_2, x50_2, rfl, HA, HK2, HO_5, HB⟩ := hrel
          cases gk with
          | zero => exact absurd HA.out (by simp [impl_diff.l1])
          | succ k2 =>
            have H := HA.out
            clear HA
            simp only [impl_diff.l1] at H
            by_cases c27 : x50_2 < (l0.length : Int)
            · rw [if_pos c27] at H
              have c27b0 : decide (x50_2 < (l0.length : Int)) = true := decide_eq_true c27
              clear c27
              by_cases c28 : 0 ≤ x50_2
              · rw [if_pos c28] at H
                have c28b0 : decide (0 ≤ x50_2) = true := decide_eq_true c28
                clear c28
                by_cases c29 : x50_2 < (l0.length : Int)
                · rw [if_pos c29] at H
                  have c29b0 : decide (x50_2 < (l0.length : Int)) = true := decide_eq_true c29
                  clear c29
                  replace H := Option.bind_eq_some_iff.mp H
                  obtain ⟨⟨t192, t193⟩, A300, H⟩ := H
                  replace H : (if t193 = true then (impl_diff.l1 k2 l1 x5_2 l0 (l0.length : Int) (wrap64 (x50_2 + 1))) else (if x5_2.length < 4398046511104 then (impl_diff.l1 k2 l1 (x5_2 ++ [(⟨(rd_T55 l0 x50_2).f0, 0, true⟩ : S62)]) l0 (l0.length : Int) (wrap64 (x50_2 + 1))) else (none))) = some r := H
                  have A30 := Aside0.mk A300
                  clear A300
                  by_cases c31 : t193 = true
                  · subst c31
                    have H1 : (impl_diff.l1 k2 l1 x5_2 l0 (l0.length : Int) (wrap64 (x50_2 + 1))) = some r := by rw [if_pos rfl] at H; exact H
                    clear H
                    have H := H1
                    clear H1
                    have H' := Aside0.mk H
                    clear H
                    have p190 : 0 ≤ (x50_2 : Int) := odt
                    have q190 : x50_2 < (l0.length : Int) := odt
                    obtain ⟨ad190, e190, hx190_0, hx190_1⟩ := at_T55 HR0.out x50_2 p190 q190
                    cases e190
                    replace hx190_0 := (HB.out.cell (World.block_lt_of_cell? w _ hx190_0)).trans hx190_0
                    replace hx190_1 := (HB.out.cell (World.block_lt_of_cell? w _ hx190_1)).trans hx190_1
                    replace p190 := eq_true p190
                    replace q190 := eq_true q190
                    go_wp2_with (first | ((with_reducible refine gate_dst (N := 11) rfl ?_); refine bE (N := 11) (cs := #[.string (⟨#[]⟩ : ByteArray), .int .i64 0]) (t := 55) ?_; intro gb191 hg w32 hbox hb; have n0_ := Aside0.mk (Kd.R_below (pR HO_5) hb); have n1_ := Aside0.mk (below_step (w := w) bW hb); have n2_ := Aside0.mk (hbox); have n3_ := Aside0.mk (gS (w := w) hg); have n4_ := n3_; clear HO_5; clear HB; have HO_5 := n0_; have HB := n1_; have BK191 := n2_; have GW191 := n3_; have GE191 := n4_; clear n0_ n1_ n2_ n3_ n4_; clear hb hbox hg; obtain ⟨hcz33_0, hcz33_1⟩ := cz2 BK191; obtain ⟨hfz33_0, hfz33_1⟩ := fz2 BK191) | (go_at_call 57; (with_reducible refine (impl_find.calls _ _ l1 ((rd_T55 l0 x50_2).f0) t192 true _ ?side1 ?side2 A30.out).mono ?_); (case side1 => exact Kd.C_below HR1.out bW); (case side2 => exact HC1.out); rintro e w34 ⟨rfl, hb⟩; have n0_ := Aside0.mk (Kd.R_below (by exact (Kd.R_mono (Kd.R_far (p := ⟨gb191, 1, none⟩) (Kd.R_far (p := ⟨gb191, 0, none⟩) (Kd.R_types HO_5.out BK191.out (by decide)) (fun _ hk => hk.2) (.string ((rd_T55 l0 x50_2).f0))) (fun _ hk => hk.2) (.int .i64 ((rd_T55 l0 x50_2).f1))) (fun _ h_ => h_.1))) hb); have n1_ := Aside0.mk (blk_below (g := gb191) (o := .cells #[.string ((rd_T55 l0 x50_2).f0), .int .i64 ((rd_T55 l0 x50_2).f1)] 55 (0, 0)) (by refine blk_put (cs := #[.string ((rd_T55 l0 x50_2).f0), .int .i64 0]) ?_ 1 _ rfl; refine blk_put (cs := #[.string (⟨#[]⟩ : ByteArray), .int .i64 0]) ?_ 0 _ rfl; exact BK191.out) hb); have n2_ := Aside0.mk (below_step (w := w) bW hb); clear HO_5; clear BK191; clear HB; have HO_5 := n0_; have BK191 := n1_; have HB := n2_; clear n0_ n1_ n2_; (try clear hb)))
                    go_roundg k2
                    case measure => have := HK1.out; have := HK2.out; omega
                    case rel => exact ⟨(x5_2), (wrap64 (x50_2 + 1)), vE, H', ⟨by have := HK1.out; have := HK2.out; omega⟩, ⟨by exact HO_5.out⟩, ⟨bW⟩⟩
                  · replace c31 := Bool.eq_false_iff.mpr c31
                    subst c31
                    have H1 : (if x5_2.length < 4398046511104 then (impl_diff.l1 k2 l1 (x5_2 ++ [(⟨(rd_T55 l0 x50_2).f0, 0, true⟩ : S62)]) l0 (l0.length : Int) (wrap64 (x50_2 + 1))) else (none)) = some r := by rw [if_neg (show ¬ (false = true) by decide)] at H; exact H
                    clear H
                    have H := H1
                    clear H1
                    by_cases c35 : x5_2.length < 4398046511104
                    · rw [if_pos c35] at H
                      have LMc35 := Aside0.mk c35
                      clear c35
                      obtain ⟨y194, hy194⟩ : ∃ y_ : List (S62), y_ = (x5_2 ++ [(⟨(rd_T55 l0 x50_2).f0, 0, true⟩ : S62)]) := ⟨_, rfl⟩
                      replace H : (impl_diff.l1 k2 l1 y194 l0 (l0.length : Int) (wrap64 (x50_2 + 1))) = some r := by (rw [hy194]; with_reducible exact H)
                      have Ny194 := Aside0.mk hy194
                      clear hy194
                      have H' := Aside0.mk H
                      clear H
                      have p190 : 0 ≤ (x50_2 : Int) := odt
                      have q190 : x50_2 < (l0.length : Int) := odt
                      obtain ⟨ad190, e190, hx190_0, hx190_1⟩ := at_T55 HR0.out x50_2 p190 q190
                      cases e190
                      replace hx190_0 := (HB.out.cell (World.block_lt_of_cell? w _ hx190_0)).trans hx190_0
                      replace hx190_1 := (HB.out.cell (World.block_lt_of_cell? w _ hx190_1)).trans hx190_1
                      replace p190 := eq_true p190
                      replace q190 := eq_true q190
                      go_wp2_with (first | ((with_reducible refine gate_dst (N := 11) rfl ?_); refine bE (N := 11) (cs := #[.string (⟨#[]⟩ : ByteArray), .int .i64 0]) (t := 55) ?_; intro gb191 hg w36 hbox hb; have n0_ := Aside0.mk (Kd.R_below (pR HO_5) hb); have n1_ := Aside0.mk (below_step (w := w) bW hb); have n2_ := Aside0.mk (hbox); have n3_ := Aside0.mk (gS (w := w) hg); have n4_ := n3_; clear HO_5; clear HB; have HO_5 := n0_; have HB := n1_; have BK191 := n2_; have GW191 := n3_; have GE191 := n4_; clear n0_ n1_ n2_ n3_ n4_; clear hb hbox hg; obtain ⟨hcz37_0, hcz37_1⟩ := cz2 BK191; obtain ⟨hfz37_0, hfz37_1⟩ := fz2 BK191) | (go_at_call 57; (with_reducible refine (impl_find.calls _ _ l1 ((rd_T55 l0 x50_2).f0) t192 false _ ?side1 ?side2 A30.out).mono ?_); (case side1 => exact Kd.C_below HR1.out bW); (case side2 => exact HC1.out); rintro e w38 ⟨rfl, hb⟩; have n0_ := Aside0.mk (Kd.R_below (by exact (Kd.R_mono (Kd.R_far (p := ⟨gb191, 1, none⟩) (Kd.R_far (p := ⟨gb191, 0, none⟩) (Kd.R_types HO_5.out BK191.out (by decide)) (fun _ hk => hk.2) (.string ((rd_T55 l0 x50_2).f0))) (fun _ hk => hk.2) (.int .i64 ((rd_T55 l0 x50_2).f1))) (fun _ h_ => h_.1))) hb); have n1_ := Aside0.mk (blk_below (g := gb191) (o := .cells #[.string ((rd_T55 l0 x50_2).f0), .int .i64 ((rd_T55 l0 x50_2).f1)] 55 (0, 0)) (by refine blk_put (cs := #[.string ((rd_T55 l0 x50_2).f0), .int .i64 0]) ?_ 1 _ rfl; refine blk_put (cs := #[.string (⟨#[]⟩ : ByteArray), .int .i64 0]) ?_ 0 _ rfl; exact BK191.out) hb); have n2_ := Aside0.mk (below_step (w := w) bW hb); clear HO_5; clear BK191; clear HB; have HO_5 := n0_; have BK191 := n1_; have HB := n2_; clear n0_ n1_ n2_; (try clear hb); obtain ⟨hcz39_0, hcz39_1⟩ := cz2 BK191; obtain ⟨hfz39_0, hfz39_1⟩ := fz2 BK191) | ((with_reducible refine gate_builtin (b := .append) (xs := #[.tmp 63, .tmp 67]) rfl ?_); at_builtin; refine Kd.R_append k62 (w0 := w) w.heap.size rfl (.tmp 63) (.tmp 67) 34 62 (.agg #[(.string ⟨#[]⟩), (.int .i64 0), (.bool false)]) 32 rfl Try.underlying34 info62 rfl (by decide) (by omega) u5 x5_2 (⟨(rd_T55 l0 x50_2).f0, 0, true⟩ : S62) [.string ((rd_T55 l0 x50_2).f0), .int .i64 0, .bool true] (fun _ => True) (fun _ => False) rfl rfl ?aP (fun _ hk => hk.elim) ?aF ?aO ?aB ?aS ?aL ?_; (case aP => exact k62_mkM _ _ _ (⟨(rd_T55 l0 x50_2).f0, 0, true⟩ : S62)); (case aB => exact bW); (case aF => exact (fun _ _ => trivial)); (case aO => exact (pR HO_5)); (case aS => exact (below_size (w := w) bW)); (case aL => have := LMc35.out; omega); intro v195 w40 ho hb hg hat; rw [← Ny194.out] at ho; have n0_ := Aside0.mk (blk_grown (g := gb191) (o := .cells #[.string ((rd_T55 l0 x50_2).f0), .int .i64 ((rd_T55 l0 x50_2).f1)] 55 (0, 0)) (kB BK191) hg (Kd.R_ne HO_5.out BK191.out (by decide))); have n1_ := Aside0.mk (hb); have n2_ := Aside0.mk (ho); clear BK191; clear HB; clear HO_5; have BK191 := n0_; have HB := n1_; have HO196 := n2_; clear n0_ n1_ n2_; clear ho hb hg hat))
                      go_roundg k2
                      case measure => have := HK1.out; have := HK2.out; omega
                      case rel => exact ⟨(y194), (wrap64 (x50_2 + 1)), vE, H', ⟨by have := HK1.out; have := HK2.out; omega⟩, ⟨by exact HO196.out⟩, ⟨bW⟩⟩
                    · rw [if_neg c35] at H
                      exact absurd H (by simp)
                · rw [if_neg c29] at H
                  exact absurd H (by simp)
              · rw [if_neg c28] at H
                exact absurd H (by simp)
            · rw [if_neg c27] at H
              have c27b0 : decide (x50_2 < (l0.length : Int)) = false := decide_eq_false c27
              clear c27
              replace H := Option.bind_eq_some_iff.mp H
              obtain ⟨t197, A410, H⟩ := H
              replace H : (some t197) = some r := H
              have A41 := Aside0.mk A410
              clear A410
              obtain rfl := Option.some.inj H
              obtain ⟨Ao42, co42, eo42⟩ := Kd.R_slice HO_5.out
              subst eo42
              go_wp2_with ((go_at_call 58; (with_reducible refine (sort_Edit.calls (fun k_ => some k_ = (.slice Ao42 x5_2.length co42 : Value).ownBlock) (.slice Ao42 x5_2.length co42) x5_2 t197 w _ ?side1 ?side2 A41.out).mono ?_); (case side1 => repeat ((with_reducible exact HB.out))); (case side2 => exact Kd.R_tight rfl HO_5.out); rintro e w43 ⟨rfl, hy0, hb, hkp⟩; have n0_ := Aside0.mk (Kd.R_reok rfl hy0 (fun k_ e_ => HO_5.out.1 k_ e_)); have n1_ := Aside0.mk (hb); clear HO_5; clear HB; have HO_5 := n0_; have HB := n1_; clear n0_ n1_; (try clear hb); (try clear hkp); (try clear hy0)))
              go_ret
              exact ⟨_, by rfl, by exact HO_5.out, bW⟩
end Go.Proofs.Ytblejbgkcgajgaa.Q
end

section
namespace Go.Proofs.Ytblejbgkcgajgaa.Q
open Go.RowKit Go.Proofs.YtblejbgkcgajgaaW.PrintWords Go.Proofs.YtblejbgkcgajgaaW.PrintLast Go.Proofs.YtblejbgkcgajgaaW.PrintMore
attribute [local go_sem] max2_int min2_int max_two min_two max_three min_three max_four min_four   -- for this text's walks alone
set_option linter.unusedVariables false
set_option linter.unusedSimpArgs false
attribute [local go_sem] bin_leq bin_gtr bin_geq
def impl_limited.f (l0 : List (S55)) : Option ((List (S55)) × Int) := if (l0.length : Int) > 12 then (some (([] : List (S55)), 7)) else (some (l0, 0))
set_option maxHeartbeats 8000000 in
set_option maxRecDepth 100000 in
theorem impl_limited.calls (P0_ : Nat → Prop) (u9000_ : Value) (l0 : List (S55)) (r1 : List (S55)) (r2 : Int) (w0 w : World) (hB : Below w0.heap.size w0 w) (ho0 : Kd.R k55 55 w w0.heap.size P0_ u9000_ l0) (h : impl_limited.f l0 = some (r1, r2)) :
    Calls Try.prog 62 #[u9000_] w fun e w' => ∃ v0_ : Value, e = .returned (.tuple #[v0_, .int .i64 r2]) ∧ Kd.R k55 55 w' w0.heap.size (fun k_ => (P0_ k_ ∨ w.heap.size ≤ k_)) v0_ r1 ∧ Below w0.heap.size w0 w' ∧ Kept w w' (fun k_ => P0_ k_) := by
  have HO0 := Aside0.mk (show Kd.R k55 55 w w0.heap.size (fun k_ => (P0_ k_ ∨ w.heap.size ≤ k_)) u9000_ l0 from Kd.R_mono ho0 (fun k_ hk => (.inl hk)))
  have HK := Aside0.mk (Kept.refl w (fun k_ => P0_ k_))
  have HW0 := Aside0.mk hB.size
  have HB := Aside0.mk hB
  clear hB
  have H : (if (l0.length : Int) > 12 then (some (([] : List (S55)), 7)) else (some (l0, 0))) = some (r1, r2) := h
  clear h
  by_cases c2 : (l0.length : Int) > 12
  · rw [if_pos c2] at H
    have c2b0 : decide (12 < (l0.length : Int)) = true := decide_eq_true c2
    have c2b1 : decide (12 < l0.length) = true := decide_eq_true (by omega)
    clear c2
    simp only [Option.some.injEq, Prod.mk.injEq] at H
    obtain ⟨rfl, rfl⟩ := H
    obtain ⟨Ao3, co3, eo3⟩ := Kd.R_slice HO0.out
    subst eo3
    go_enter Try.func62, Try.ntmps62
    go_wp2
    go_ret2
    exact ⟨_, by first | rfl | (simp [errW_none, errW_some] <;> rfl) | (simp [*, errW_none, errW_some] <;> rfl), by first | exact Kd.R_nil _ _ _ _ _ | exact Kd.N_nil _ _ _ _ _ | exact Kd.V_nil _ _ _ _ _ | exact Kd.Q_nil _ _ _ _ _ | exact Kd.S_nil _ _ _ _ _, by repeat (first | (with_reducible first | exact HB.out | apply below_alloc | apply pw_below_drewN | apply below_drew1) | exact HB.out), by repeat (first | (with_reducible first | exact HK.out | apply Kept.alloc | apply Kept.drewN | apply Kept.drew) | exact HK.out)⟩
  · rw [if_neg c2] at H
    have c2b0 : decide (12 < (l0.length : Int)) = false := decide_eq_false c2
    have c2b1 : decide (12 < l0.length) = false := decide_eq_false (by omega)
    clear c2
    simp only [Option.some.injEq, Prod.mk.injEq] at H
    obtain ⟨rfl, rfl⟩ := H
    obtain ⟨Ao4, co4, eo4⟩ := Kd.R_slice HO0.out
    subst eo4
    go_enter Try.func62, Try.ntmps62
    go_wp2
    go_ret2
    exact ⟨_, by first | rfl | (simp [errW_none, errW_some] <;> rfl) | (simp [*, errW_none, errW_some] <;> rfl), by (with_reducible repeat (first | apply Kd.R_alloc | apply Kd.R_drewN | apply Kd.R_drew)); exact HO0.out, by repeat (first | (with_reducible first | exact HB.out | apply below_alloc | apply pw_below_drewN | apply below_drew1) | exact HB.out), by repeat (first | (with_reducible first | exact HK.out | apply Kept.alloc | apply Kept.drewN | apply Kept.drew) | exact HK.out)⟩
end Go.Proofs.Ytblejbgkcgajgaa.Q
end

section
namespace Go.Proofs.Ytblejbgkcgajgaa.Q
open Go.RowKit Go.Proofs.YtblejbgkcgajgaaW.PrintWords Go.Proofs.YtblejbgkcgajgaaW.PrintLast Go.Proofs.YtblejbgkcgajgaaW.PrintMore
attribute [local go_sem] max2_int min2_int max_two min_two max_three min_three max_four min_four   -- for this text's walks alone
set_option linter.unusedVariables false
set_option linter.unusedSimpArgs false
attribute [local go_sem] bin_leq bin_gtr bin_geq
def lastE (L : List S62) (key : ByteArray) : Option S62 := L.foldl (fun a e => if e.f0 = key then some e else a) none
def hasE (L : List S62) (key : ByteArray) : Bool := (lastE L key).isSome
def gotE (L : List S62) (key : ByteArray) : S62 := (lastE L key).getD ⟨⟨#[]⟩, 0, false⟩
def heldR (v : Value) : Option (DataW Value × List MemPlace) := some (.held v, [])
def ediV (e : S62) : Value := .agg #[.string e.f0, .int .i64 e.f1, .bool e.f2]
def mapD (L : List S62) : DataW Value := L.foldl (fun D e => D.put (.string e.f0.data.toList) (.held (ediV e))) (.map [])
def MapE (w : World) (B n : Nat) (L : List S62) : Prop := w.ownsMap Try.prog 9 heldR B n (mapD L)
theorem lastE_snoc (L : List S62) (e : S62) (key : ByteArray) : lastE (L ++ [e]) key = if e.f0 = key then some e else lastE L key := by simp [lastE, List.foldl_append]
theorem mapD_snoc (L : List S62) (e : S62) : mapD (L ++ [e]) = (mapD L).put (.string e.f0.data.toList) (.held (ediV e)) := by simp [mapD, List.foldl_append]
theorem mapD_all (m : Nat) : ∀ L : List S62, L.length = m → Go.Maps.IsMap (mapD L) ∧ ∀ key : ByteArray, Go.Maps.has (mapD L) (.string key.data.toList) = hasE L key ∧ ∀ z, (mapD L).atKey (.string key.data.toList) (.held z) = .held (match lastE L key with | some x => ediV x | none => z) := by
  induction m with
  | zero =>
    intro L hL
    obtain rfl := List.eq_nil_of_length_eq_zero hL
    exact ⟨⟨[], rfl⟩, fun key => ⟨rfl, fun z => rfl⟩⟩
  | succ m ih =>
    intro L hL
    have hne : L ≠ [] := by intro h; rw [h] at hL; simp at hL
    obtain ⟨I, e, rfl⟩ : ∃ I e, L = I ++ [e] := ⟨L.dropLast, L.getLast hne, (List.dropLast_concat_getLast hne).symm⟩
    obtain ⟨h1, h2⟩ := ih I (by simpa using hL)
    rw [mapD_snoc]
    refine ⟨h1.put _ _, fun key => ?_⟩
    rw [lastE_snoc]
    unfold hasE
    rw [lastE_snoc]
    by_cases hk : e.f0 = key
    · subst hk
      refine ⟨by rw [Go.Maps.has_put_same h1 (by trivial), if_pos rfl]; rfl, fun z => ?_⟩
      rw [Go.Maps.atKey_put_same h1 (by trivial), if_pos rfl]
    · have hne2 : (Lit.string key.data.toList) ≠ Lit.string e.f0.data.toList := by
        intro h
        injection h with h
        apply hk
        have h5 : e.f0.data = key.data := Array.ext' h.symm
        cases hA : e.f0
        cases hB : key
        rw [hA, hB] at h5
        exact congrArg ByteArray.mk h5
      refine ⟨by rw [Go.Maps.has_put_other hne2, if_neg hk]; exact (h2 key).1, fun z => ?_⟩
      rw [Go.Maps.atKey_put_other hne2, if_neg hk]
      exact (h2 key).2 z
theorem MapE_made (w : World) : MapE (w.alloc (.map #[] 0)) w.heap.size 0 [] := World.ownsMap_made w _ _ _
theorem MapE_lt {w : World} {B n : Nat} {L : List S62} (h : MapE w B n L) : B < w.heap.size := World.ownsMap.lt h
theorem MapE_alloc {w : World} {B n : Nat} {L : List S62} (h : MapE w B n L) (o : Obj) : MapE (w.alloc o) B n L := World.ownsMap.alloc h o
theorem MapE_grown {w w' : World} {B n : Nat} {L : List S62} {row : Option Nat} (h : MapE w B n L) (hg : w.grownBy w' row) (hne : some B ≠ row) : MapE w' B n L := World.ownsMap.kept h hg hne
theorem MapE_below {w w' : World} {B n : Nat} {L : List S62} (h : MapE w B n L) (hb : Below w.heap.size w w') : MapE w' B n L := World.ownsMap.kept h (grown_of_below hb none) (by simp)
theorem zeroEd (w : World) : (zeroValue 62).run Try.prog w = .ok (.agg #[.string ⟨#[]⟩, .int .i64 0, .bool false]) w := Try.zeroValue62 w
section
variable (w : World) {ops : Array Oper} {rest : List Oper} {o : Oper} {a : Act} {Q : Exit → Act → World → Prop}
theorem wpList_lookup_E (hg : o.guard = none) (m x : Operand) (hop : o.op = Op.lookup 83 m x true) (B n : Nat) (L : List S62) (hm : a.eval m = .map (some B)) (hown : MapE w B n L) (key : ByteArray) (hx : a.eval x = .string key) (hk : key.size ≤ maxLen)
    (y : S62) (b : Bool) (hy : gotE L key = y) (hb : hasE L key = b)
    (hK : wpList Try.prog ops Q rest (a.put o.dst (.tuple #[.agg #[.string y.f0, .int .i64 y.f1, .bool y.f2], .bool b])) w) :
    wpList Try.prog ops Q (o :: rest) a w :=
  wpList_lookup_own_ok w hg m x _ hop 9 62 (Go.Maps.string_keyed Try.underlying9) Try.underlying83 heldR (zeroEd w) _ [] rfl B n (mapD L) hm hown (.string key) (.string key.data.toList) hx (Go.WideMaps.keyOf_string_mk Try.underlying9 hk) (fun v ps hv => by
    obtain ⟨h1, h2⟩ := (mapD_all L.length L rfl).2 key
    rw [h2, heldR] at hv
    have e1 := congrArg Prod.fst (Option.some.inj hv)
    simp only at e1
    injection e1 with e2
    have e3 : v = .agg #[.string y.f0, .int .i64 y.f1, .bool y.f2] := by
      rw [e2, ← hy]
      unfold gotE
      cases lastE L key <;> rfl
    rw [e3, h1, hb]
    exact hK)
theorem wpList_update_E (hg : o.guard = none) (m x v : Operand) (hop : o.op = Op.mapUpdate 83 m x v) (B n : Nat) (L : List S62) (hm : a.eval m = .map (some B)) (hown : MapE w B n L) (hn : n < maxLen) (e : S62) (hx : a.eval x = .string e.f0) (hv : a.eval v = ediV e) (hk : e.f0.size ≤ maxLen)
    (hK : ∀ w', MapE w' B (n + 1) (L ++ [e]) → w.grownBy w' (some B) → wpList Try.prog ops Q rest (a.put o.dst undef) w') :
    wpList Try.prog ops Q (o :: rest) a w :=
  wpList_mapUpdate_own w hg m x v _ hop 9 62 (Go.Maps.string_keyed Try.underlying9) Try.underlying83 heldR B n (mapD L) hm hown hn (.string e.f0) (ediV e) (.string e.f0.data.toList) hx hv (Go.WideMaps.keyOf_string_mk Try.underlying9 hk) (.held (ediV e)) [] rfl (fun w' h1 h2 => hK w' (by unfold MapE; rw [mapD_snoc]; exact h1) h2)
end
def neE (x e : S62) : Bool := !(x.f0.toList == e.f0.toList) || (!(x.f1 == e.f1) || !(x.f2 == e.f2))
def mstep (L : List S62) (oc : List S62 × List ByteArray) (e : S62) : List S62 × List ByteArray :=
  if hasE L e.f0 = true then (if neE (gotE L e.f0) e = true then (oc.1, oc.2 ++ [e.f0]) else oc) else (oc.1 ++ [e], oc.2)
def mrg (L R : List S62) : List S62 × List ByteArray := R.foldl (mstep L) ([], [])
theorem mrg_take (L R : List S62) (i : Nat) (hi : i < R.length) : mrg L (R.take (i + 1)) = mstep L (mrg L (R.take i)) R[i] := by
  unfold mrg
  rw [List.take_succ_eq_append_getElem hi, List.foldl_append]
  rfl
theorem mrg_len (L R : List S62) (i : Nat) (hi : i ≤ R.length) : (mrg L (R.take i)).1.length ≤ i ∧ (mrg L (R.take i)).2.length ≤ i := by
  induction i with
  | zero => simp [mrg]
  | succ i ih =>
    have h := ih (by omega)
    rw [mrg_take L R i hi]
    unfold mstep
    split
    · split
      · simp only [List.length_append, List.length_cons, List.length_nil]; omega
      · omega
    · simp only [List.length_append, List.length_cons, List.length_nil]; omega
def small (L R : List S62) : Bool := (L ++ R).all (fun e => decide (e.f0.size ≤ 1000000)) && decide (L.length + R.length ≤ 1000000)
end Go.Proofs.Ytblejbgkcgajgaa.Q
end

section
namespace Go.Proofs.Ytblejbgkcgajgaa.Q
open Go.RowKit Go.Proofs.YtblejbgkcgajgaaW.PrintWords Go.Proofs.YtblejbgkcgajgaaW.PrintLast Go.Proofs.YtblejbgkcgajgaaW.PrintMore
attribute [local go_sem] max2_int min2_int max_two min_two max_three min_three max_four min_four   -- for this text's walks alone
set_option linter.unusedVariables false
set_option linter.unusedSimpArgs false
attribute [local go_sem] bin_leq bin_gtr bin_geq
def impl_merge.f (k : Nat) (l0 : List (S55)) (l1 : List (S55)) (l2 : List (S55)) : Option ((List (S55)) × List ByteArray × Int) := (impl_diff.f k l0 l1).bind fun L => (impl_diff.f k l0 l2).bind fun R => if small L R = true then (if 0 < (mrg L R).2.length then some ([], (mrg L R).2, 11) else ((impl_edited.f k l1 (mrg L R).1).bind fun m => (impl_limited.f m).bind fun t => some (t.1, [], t.2))) else none
set_option maxHeartbeats 8000000 in
set_option maxRecDepth 100000 in
theorem impl_merge.calls (k : Nat) (A0 : Option Addr) (c0 : Nat) (l0 : List (S55)) (A1 : Option Addr) (c1 : Nat) (l1 : List (S55)) (A2 : Option Addr) (c2 : Nat) (l2 : List (S55)) (r1 : List (S55)) (r2 : List ByteArray) (r3 : Int) (w : World) (hr0 : Kd.C k55 w A0 l0.length l0) (hc0 : l0.length ≤ c0) (hr1 : Kd.C k55 w A1 l1.length l1) (hc1 : l1.length ≤ c1) (hr2 : Kd.C k55 w A2 l2.length l2) (hc2 : l2.length ≤ c2) (h : impl_merge.f k l0 l1 l2 = some (r1, r2, r3)) :
    Calls Try.prog 44 #[.slice A0 l0.length c0, .slice A1 l1.length c1, .slice A2 l2.length c2] w fun e w' => ∃ v0_ v1_ : Value, e = .returned (.tuple #[v0_, v1_, .int .i64 r3]) ∧ Kd.R k55 55 w' w.heap.size (fun _ => True) v0_ r1 ∧ Kd.R Kd.string 9 w' w.heap.size (fun _ => True) v1_ r2 ∧ Below w.heap.size w w' := by
  unfold impl_merge.f at h
  have HR0 := Aside0.mk hr0
  have HC0 := Aside0.mk hc0
  have HR1 := Aside0.mk hr1
  have HC1 := Aside0.mk hc1
  have HR2 := Aside0.mk hr2
  have HC2 := Aside0.mk hc2
  clear hr0 hc0 hr1 hc1 hr2 hc2
  obtain ⟨L, h1, h⟩ := Option.bind_eq_some_iff.mp h
  have A1_ := Aside0.mk h1
  clear h1
  obtain ⟨R, h2, h⟩ := Option.bind_eq_some_iff.mp h
  have A2_ := Aside0.mk h2
  clear h2
  by_cases hs : small L R = true
  case neg => rw [if_neg hs] at h; cases h
  rw [if_pos hs] at h
  have hsz : ∀ e : S62, e ∈ L ∨ e ∈ R → e.f0.size ≤ 1000000 := by
    unfold small at hs
    rw [Bool.and_eq_true, List.all_eq_true] at hs
    exact fun e he => of_decide_eq_true (hs.1 e (List.mem_append.mpr he))
  have hlen : L.length + R.length ≤ 1000000 := by
    unfold small at hs
    rw [Bool.and_eq_true] at hs
    exact of_decide_eq_true hs.2
  have HS := Aside0.mk hsz
  have HN := Aside0.mk hlen
  have H := Aside0.mk h
  clear hsz hlen hs h
  have hmm := @run_makeMap Try.prog
  have HM0 := Aside0.mk (MapE_made w)
  have hLb : L.length ≤ 1000000 := by have := HN.out; omega
  have hRb : R.length ≤ 1000000 := by have := HN.out; omega
  have HB := Aside0.mk (show Below w.heap.size w (w.alloc (.map #[] 0)) from below_alloc (Below.refl _ _) _)
  go_enter Try.func44, Try.ntmps44
  go_wp2_with (go_at_call 38; (with_reducible refine (impl_diff.calls k _ _ l0 _ _ l1 L _ ?s1 ?s2 ?s3 ?s4 A1_.out).mono ?_); (case s1 => exact Kd.C_below HR0.out HB.out); (case s2 => exact HC0.out); (case s3 => exact Kd.C_below HR1.out HB.out); (case s4 => exact HC1.out); rintro e w2 ⟨v9, rfl, ho0, hb⟩; have n0_ := Aside0.mk (Kd.R_mono (Kd.R_lower (Kd.R_bound ho0) (below_size (w := w) HB.out)) (fun k_ hk => (show k_ ≠ w.heap.size from fun e_ => by have h8 := hk.2.1; have h9 := MapE_lt HM0.out; rw [e_] at h8; omega))); have n1_ := Aside0.mk (MapE_below HM0.out hb); have n2_ := Aside0.mk (below_step (w := w) HB.out hb); clear HB HM0 ho0 hb; have HL := n0_; have HM := n1_; have HB := n2_; clear n0_ n1_ n2_; obtain ⟨A9, c9, e9⟩ := Kd.R_slice HL.out; subst e9)
  go_loopg [25] L.length (fun gk v25 w' => ∃ i : Nat, v25 = .int .i64 i ∧ i ≤ L.length ∧ L.length - i ≤ gk ∧ Aside0 (MapE w' w.heap.size i (L.take i)) ∧ Aside0 (Kd.R k62 62 w' w.heap.size (fun k_ => k_ ≠ w.heap.size) (.slice A9 L.length c9) L) ∧ Aside0 (Below w.heap.size w w'))
  case atStart => exact ⟨0, rfl, Nat.zero_le _, by omega, HM, HL, HB⟩
  case round =>
    clear HM HL HB
    obtain ⟨i, rfl, hi, hg, HM, HL, HB⟩ := hrel
    by_cases hlt : i < L.length
    · have hltz : (i : Int) < (L.length : Int) := by omega
      obtain ⟨ad, ead, hx0, hx1, hx2⟩ := at_T62 (Kd.R_reads' HL.out).2.2 (i : Int) (by omega) hltz
      have e1 : rd_T62 L (i : Int) = L[i] := by simp [rd_T62, List.getD_eq_getElem?_getD, List.getElem?_eq_getElem hlt]
      rw [e1] at hx0 hx1 hx2
      simp only [Int.toNat_natCast] at hx0 hx1 hx2
      have HZ := Aside0.mk (show (L[i]).f0.size ≤ maxLen from Nat.le_trans (HS.out _ (.inl (List.getElem_mem hlt))) (by unfold maxLen; decide))
      have HT := Aside0.mk (show L.take (i + 1) = L.take i ++ [L[i]] from List.take_succ_eq_append_getElem hlt)
      obtain ⟨y, hy⟩ : ∃ y, y = L[i] := ⟨_, rfl⟩
      rw [← hy] at hx0 hx1 hx2 HZ HT
      clear hy e1
      cases ead
      have HI := Aside0.mk (show i < maxLen by have := HN.out; unfold maxLen; omega)
      go_wp2_with (at_mapUpdate; refine wpList_update_E _ rfl _ _ _ rfl w.heap.size i (L.take i) rfl (MapE_alloc HM.out _) HI.out y rfl rfl HZ.out ?_; intro w1 hm1 hg1; rw [← HT.out] at hm1; have n0_ := Aside0.mk hm1; have n1_ := Aside0.mk (Kd.R_grown (Kd.R_alloc HL.out _) hg1 (fun k_ hk e_ => hk (by injection e_))); have n2_ := Aside0.mk (Below.grown (below_alloc HB.out _) hg1 (below_alloc HB.out _).size (fun k_ e_ => by injection e_ with e_; rw [← e_]; exact Nat.le_refl _)); clear HM HL HB hm1 hg1; have HM := n0_; have HL := n1_; have HB := n2_; clear n0_ n1_ n2_)
      go_roundg (L.length - (i + 1))
      case measure => omega
      case rel => exact ⟨i + 1, by go_num, by omega, Nat.le_refl _, HM, HL, HB⟩
    · have hltz : ¬ (i : Int) < (L.length : Int) := by omega
      obtain rfl : i = L.length := by omega
      have n0_ := Aside0.mk (show MapE wr w.heap.size L.length L from by have h_ := HM.out; rw [List.take_length] at h_; exact h_)
      clear HM
      have HM := n0_
      clear n0_
      go_wp2_with (go_at_call 38; (with_reducible refine (impl_diff.calls k _ _ l0 _ _ l2 R _ ?s1 ?s2 ?s3 ?s4 A2_.out).mono ?_); (case s1 => exact Kd.C_below HR0.out HB.out); (case s2 => exact HC0.out); (case s3 => exact Kd.C_below HR2.out HB.out); (case s4 => exact HC2.out); rintro e w3 ⟨v36, rfl, ho0, hb⟩; have n0_ := Aside0.mk (Kd.R_mono (Kd.R_lower (Kd.R_bound ho0) (below_size (w := w) HB.out)) (fun k_ hk => (show k_ ≠ w.heap.size from fun e_ => by have h8 := hk.2.1; have h9 := MapE_lt HM.out; rw [e_] at h8; omega))); have n1_ := Aside0.mk (MapE_below HM.out hb); have n2_ := Aside0.mk (below_step (w := w) HB.out hb); clear HB HM HL ho0 hb; have HL := n0_; have HM := n1_; have HB := n2_; clear n0_ n1_ n2_; obtain ⟨A36, c36, e36⟩ := Kd.R_slice HL.out; subst e36)
      have n0_ := Aside0.mk (Kd.R_mono HL.out (fun k_ hk => (⟨hk, by simp [Value.ownBlock]⟩ : k_ ≠ w.heap.size ∧ some k_ ≠ (Value.slice none 0 0).ownBlock)))
      clear HL
      have HR := n0_
      clear n0_
      go_loopg [12, 13, 38] R.length (fun gk v12 v13 v38 w' => ∃ j : Nat, v38 = .int .i64 j ∧ j ≤ R.length ∧ R.length - j ≤ gk ∧ Aside0 (MapE w' w.heap.size L.length L) ∧ Aside0 (Kd.R k62 62 w' w.heap.size (fun k_ => k_ ≠ w.heap.size ∧ some k_ ≠ (v12 : Value).ownBlock) (.slice A36 R.length c36) R) ∧ Aside0 (Kd.R k62 62 w' w.heap.size (fun k_ => k_ ≠ w.heap.size ∧ some k_ ≠ (.slice A36 R.length c36 : Value).ownBlock) v12 (mrg L (R.take j)).1) ∧ Aside0 (Kd.R Kd.string 9 w' w.heap.size (fun k_ => k_ ≠ w.heap.size) v13 (mrg L (R.take j)).2) ∧ Aside0 (Below w.heap.size w w'))
      case atStart => exact ⟨0, rfl, Nat.zero_le _, by omega, HM, HR, ⟨Kd.R_nil _ _ _ _ _⟩, ⟨Kd.R_nil _ _ _ _ _⟩, HB⟩
      case round =>
        clear HM HR HB
        obtain ⟨j, rfl, hj, hg2, HM, HR, HO, HC, HB⟩ := hrel
        by_cases hlt2 : j < R.length
        · have hltz2 : (j : Int) < (R.length : Int) := by omega
          obtain ⟨ad, ead, hx0, hx1, hx2⟩ := at_T62 (Kd.R_reads' HR.out).2.2 (j : Int) (by omega) hltz2
          have e1 : rd_T62 R (j : Int) = R[j] := by simp [rd_T62, List.getD_eq_getElem?_getD, List.getElem?_eq_getElem hlt2]
          rw [e1] at hx0 hx1 hx2
          simp only [Int.toNat_natCast] at hx0 hx1 hx2
          have HZ := Aside0.mk (show (R[j]).f0.size ≤ maxLen from Nat.le_trans (HS.out _ (.inr (List.getElem_mem hlt2))) (by unfold maxLen; decide))
          have HT := Aside0.mk (mrg_take L R j hlt2)
          obtain ⟨y, hy⟩ : ∃ y, y = R[j] := ⟨_, rfl⟩
          rw [← hy] at hx0 hx1 hx2 HZ HT
          clear hy e1
          cases ead
          have HLn := Aside0.mk (mrg_len L R j (Nat.le_of_lt hlt2))
          obtain ⟨o_, ho_⟩ : ∃ o_, o_ = (mrg L (R.take j)).1 := ⟨_, rfl⟩
          obtain ⟨c_, hc_⟩ : ∃ c_, c_ = (mrg L (R.take j)).2 := ⟨_, rfl⟩
          have HP := Aside0.mk (show mrg L (R.take j) = (o_, c_) by rw [ho_, hc_])
          rw [← ho_] at HO HLn
          rw [← hc_] at HC HLn
          clear ho_ hc_
          have HL1 := Aside0.mk HLn.out.1
          have HL2 := Aside0.mk HLn.out.2
          clear HLn
          obtain ⟨z_, hz_⟩ : ∃ z_, z_ = gotE L y.f0 := ⟨_, rfl⟩
          have HG := Aside0.mk hz_.symm
          clear hz_
          cases hh : hasE L y.f0 with
          | false =>
            have HH := Aside0.mk hh
            have HT2 := Aside0.mk (show mrg L (R.take (j + 1)) = (o_ ++ [y], c_) by rw [HT.out, HP.out, mstep, hh]; rfl)
            clear hh
            go_wp2_with (first | (at_lookup; refine wpList_lookup_E _ rfl _ _ rfl w.heap.size L.length L rfl (MapE_alloc HM.out _) y.f0 rfl HZ.out z_ false HG.out HH.out ?_) | ((with_reducible refine gate_builtin (b := .append) (xs := #[.tmp 52, .tmp 54]) rfl ?_); at_builtin; refine Kd.R_append k62 (w0 := w) w.heap.size rfl (.tmp 52) (.tmp 54) 34 62 (.agg #[(.string ⟨#[]⟩), (.int .i64 0), (.bool false)]) 32 rfl Try.underlying34 info62 rfl (by decide) (by omega) u12 o_ y [.string y.f0, .int .i64 y.f1, .bool y.f2] (fun k_ => k_ ≠ w.heap.size ∧ some k_ ≠ (.slice (some ad) R.length c36 : Value).ownBlock) (fun _ => False) rfl (by (go_simp; done)) ?aP (fun _ hk => hk.elim) ?aF ?aO ?aB ?aS ?aL ?_; (case aP => exact k62_mkM _ _ _ y); (case aB => exact below_alloc (below_alloc HB.out _) _); (case aF => exact fun k_ hk => ⟨(show k_ ≠ w.heap.size from fun e_ => by have h9 := MapE_lt HM.out; rw [e_] at hk; simp at hk; omega), Kd.fresh' (Kd.R_lt (Kd.R_alloc (Kd.R_alloc HR.out _) _)) k_ hk⟩); (case aO => exact Kd.R_alloc (Kd.R_alloc HO.out _) _); (case aS => exact below_size (w := w) (below_alloc (below_alloc HB.out _) _)); (case aL => have := HL1.out; omega); intro v1 w5 ho hb hg hat; have n0_ := Aside0.mk (MapE_grown (MapE_alloc (MapE_alloc HM.out _) _) hg (Kd.R_away HO.out (fun _ hk => hk.1))); have n1_ := Aside0.mk (Kd.R_after (ok := (fun k_ => k_ ≠ w.heap.size)) (Kd.R_alloc (Kd.R_alloc HR.out _) _) hg hat); have n2_ := Aside0.mk (Kd.R_over' (Kd.R_alloc (Kd.R_alloc HC.out _) _) (Kd.R_typed (Kd.R_alloc (Kd.R_alloc HO.out _) _)) (by decide) hg); have n3_ := Aside0.mk ho; have n4_ := Aside0.mk hb; clear HM HR HC HO HB ho hb hg hat; have HM := n0_; have HR := n1_; have HC := n2_; have HO := n3_; have HB := n4_; clear n0_ n1_ n2_ n3_ n4_))
            go_roundg (R.length - (j + 1))
            case measure => omega
            case rel => exact ⟨j + 1, by go_num, by omega, Nat.le_refl _, HM, HR, ⟨by rw [HT2.out]; exact HO.out⟩, ⟨by rw [HT2.out]; exact HC.out⟩, HB⟩
          | true =>
            have HH := Aside0.mk hh
            cases hd : neE z_ y with
            | false =>
              have HT2 := Aside0.mk (show mrg L (R.take (j + 1)) = (o_, c_) by rw [HT.out, HP.out, mstep, hh, HG.out, hd]; rfl)
              have hdb : (!(z_.f0.toList == y.f0.toList) || (!(z_.f1 == y.f1) || !(z_.f2 == y.f2))) = false := hd
              simp only [Bool.or_eq_false_iff, Bool.not_eq_false', beq_iff_eq] at hdb
              obtain ⟨he0, he1, he2⟩ := hdb
              have hzy : z_ = y := by
                cases z_
                cases y
                simp only at he0 he1 he2
                rw [toList_inj he0, he1, he2]
              clear hh hd he0 he1 he2
              subst hzy
              go_wp2_with ((at_lookup; refine wpList_lookup_E _ rfl _ _ rfl w.heap.size L.length L rfl (MapE_alloc HM.out _) z_.f0 rfl HZ.out z_ true HG.out HH.out ?_))
              go_roundg (R.length - (j + 1))
              case measure => omega
              case rel => exact ⟨j + 1, by go_num, by omega, Nat.le_refl _, ⟨MapE_alloc (MapE_alloc HM.out _) _⟩, ⟨Kd.R_alloc (Kd.R_alloc HR.out _) _⟩, ⟨by rw [HT2.out]; exact Kd.R_alloc (Kd.R_alloc HO.out _) _⟩, ⟨by rw [HT2.out]; exact Kd.R_alloc (Kd.R_alloc HC.out _) _⟩, ⟨below_alloc (below_alloc HB.out _) _⟩⟩
            | true =>
              have HT2 := Aside0.mk (show mrg L (R.take (j + 1)) = (o_, c_ ++ [y.f0]) by rw [HT.out, HP.out, mstep, hh, HG.out, hd]; rfl)
              have h3 : (¬ z_.f0.toList = y.f0.toList) ∨ (z_.f0.toList = y.f0.toList ∧ ¬ z_.f1 = y.f1) ∨ (z_.f0.toList = y.f0.toList ∧ z_.f1 = y.f1 ∧ ¬ z_.f2 = y.f2) := by
                by_cases q0 : z_.f0.toList = y.f0.toList
                · by_cases q1 : z_.f1 = y.f1
                  · by_cases q2 : z_.f2 = y.f2
                    · unfold neE at hd
                      rw [q0, q1, q2] at hd
                      simp at hd
                    · exact .inr (.inr ⟨q0, q1, q2⟩)
                  · exact .inr (.inl ⟨q0, q1⟩)
                · exact .inl q0
              clear hh hd
              rcases h3 with hq0 | ⟨hq0, hq1⟩ | ⟨hq0, hq1, hq2⟩
              · go_wp2_with (first | (at_lookup; refine wpList_lookup_E _ rfl _ _ rfl w.heap.size L.length L rfl (MapE_alloc HM.out _) y.f0 rfl HZ.out z_ true HG.out HH.out ?_) | ((with_reducible refine gate_builtin (b := .append) (xs := #[.tmp 60, .tmp 63]) rfl ?_); at_builtin; refine Kd.R_append Kd.string (w0 := w) w.heap.size rfl (.tmp 60) (.tmp 63) 24 9 (.string ⟨#[]⟩) 16 rfl Try.underlying24 info9 rfl (by decide) (by omega) u13 c_ y.f0 [.string y.f0] (fun k_ => k_ ≠ w.heap.size) (fun _ => False) rfl (by (go_simp; done)) ?aP (fun _ hk => hk.elim) ?aF ?aO ?aB ?aS ?aL ?_; (case aP => exact rfl); (case aB => exact below_alloc (below_alloc HB.out _) _); (case aF => exact fun k_ hk => (show k_ ≠ w.heap.size from fun e_ => by have h9 := MapE_lt HM.out; rw [e_] at hk; simp at hk; omega)); (case aO => exact Kd.R_alloc (Kd.R_alloc HC.out _) _); (case aS => exact below_size (w := w) (below_alloc (below_alloc HB.out _) _)); (case aL => have := HL2.out; omega); intro v1 w5 ho hb hg hat; have n0_ := Aside0.mk (MapE_grown (MapE_alloc (MapE_alloc HM.out _) _) hg (Kd.R_away HC.out (fun _ hk => hk))); have n1_ := Aside0.mk (Kd.R_over' (Kd.R_alloc (Kd.R_alloc HR.out _) _) (Kd.R_typed (Kd.R_alloc (Kd.R_alloc HC.out _) _)) (by decide) hg); have n2_ := Aside0.mk (Kd.R_over' (Kd.R_alloc (Kd.R_alloc HO.out _) _) (Kd.R_typed (Kd.R_alloc (Kd.R_alloc HC.out _) _)) (by decide) hg); have n3_ := Aside0.mk ho; have n4_ := Aside0.mk hb; clear HM HR HC HO HB ho hb hg hat; have HM := n0_; have HR := n1_; have HO := n2_; have HC := n3_; have HB := n4_; clear n0_ n1_ n2_ n3_ n4_))
                go_roundg (R.length - (j + 1))
                case measure => omega
                case rel => exact ⟨j + 1, by go_num, by omega, Nat.le_refl _, HM, HR, ⟨by rw [HT2.out]; exact HO.out⟩, ⟨by rw [HT2.out]; exact HC.out⟩, HB⟩
              · go_wp2_with (first | (at_lookup; refine wpList_lookup_E _ rfl _ _ rfl w.heap.size L.length L rfl (MapE_alloc HM.out _) y.f0 rfl HZ.out z_ true HG.out HH.out ?_) | ((with_reducible refine gate_builtin (b := .append) (xs := #[.tmp 60, .tmp 63]) rfl ?_); at_builtin; refine Kd.R_append Kd.string (w0 := w) w.heap.size rfl (.tmp 60) (.tmp 63) 24 9 (.string ⟨#[]⟩) 16 rfl Try.underlying24 info9 rfl (by decide) (by omega) u13 c_ y.f0 [.string y.f0] (fun k_ => k_ ≠ w.heap.size) (fun _ => False) rfl (by (go_simp; done)) ?aP (fun _ hk => hk.elim) ?aF ?aO ?aB ?aS ?aL ?_; (case aP => exact rfl); (case aB => exact below_alloc (below_alloc HB.out _) _); (case aF => exact fun k_ hk => (show k_ ≠ w.heap.size from fun e_ => by have h9 := MapE_lt HM.out; rw [e_] at hk; simp at hk; omega)); (case aO => exact Kd.R_alloc (Kd.R_alloc HC.out _) _); (case aS => exact below_size (w := w) (below_alloc (below_alloc HB.out _) _)); (case aL => have := HL2.out; omega); intro v1 w5 ho hb hg hat; have n0_ := Aside0.mk (MapE_grown (MapE_alloc (MapE_alloc HM.out _) _) hg (Kd.R_away HC.out (fun _ hk => hk))); have n1_ := Aside0.mk (Kd.R_over' (Kd.R_alloc (Kd.R_alloc HR.out _) _) (Kd.R_typed (Kd.R_alloc (Kd.R_alloc HC.out _) _)) (by decide) hg); have n2_ := Aside0.mk (Kd.R_over' (Kd.R_alloc (Kd.R_alloc HO.out _) _) (Kd.R_typed (Kd.R_alloc (Kd.R_alloc HC.out _) _)) (by decide) hg); have n3_ := Aside0.mk ho; have n4_ := Aside0.mk hb; clear HM HR HC HO HB ho hb hg hat; have HM := n0_; have HR := n1_; have HO := n2_; have HC := n3_; have HB := n4_; clear n0_ n1_ n2_ n3_ n4_))
                go_roundg (R.length - (j + 1))
                case measure => omega
                case rel => exact ⟨j + 1, by go_num, by omega, Nat.le_refl _, HM, HR, ⟨by rw [HT2.out]; exact HO.out⟩, ⟨by rw [HT2.out]; exact HC.out⟩, HB⟩
              · go_wp2_with (first | (at_lookup; refine wpList_lookup_E _ rfl _ _ rfl w.heap.size L.length L rfl (MapE_alloc HM.out _) y.f0 rfl HZ.out z_ true HG.out HH.out ?_) | ((with_reducible refine gate_builtin (b := .append) (xs := #[.tmp 60, .tmp 63]) rfl ?_); at_builtin; refine Kd.R_append Kd.string (w0 := w) w.heap.size rfl (.tmp 60) (.tmp 63) 24 9 (.string ⟨#[]⟩) 16 rfl Try.underlying24 info9 rfl (by decide) (by omega) u13 c_ y.f0 [.string y.f0] (fun k_ => k_ ≠ w.heap.size) (fun _ => False) rfl (by (go_simp; done)) ?aP (fun _ hk => hk.elim) ?aF ?aO ?aB ?aS ?aL ?_; (case aP => exact rfl); (case aB => exact below_alloc (below_alloc HB.out _) _); (case aF => exact fun k_ hk => (show k_ ≠ w.heap.size from fun e_ => by have h9 := MapE_lt HM.out; rw [e_] at hk; simp at hk; omega)); (case aO => exact Kd.R_alloc (Kd.R_alloc HC.out _) _); (case aS => exact below_size (w := w) (below_alloc (below_alloc HB.out _) _)); (case aL => have := HL2.out; omega); intro v1 w5 ho hb hg hat; have n0_ := Aside0.mk (MapE_grown (MapE_alloc (MapE_alloc HM.out _) _) hg (Kd.R_away HC.out (fun _ hk => hk))); have n1_ := Aside0.mk (Kd.R_over' (Kd.R_alloc (Kd.R_alloc HR.out _) _) (Kd.R_typed (Kd.R_alloc (Kd.R_alloc HC.out _) _)) (by decide) hg); have n2_ := Aside0.mk (Kd.R_over' (Kd.R_alloc (Kd.R_alloc HO.out _) _) (Kd.R_typed (Kd.R_alloc (Kd.R_alloc HC.out _) _)) (by decide) hg); have n3_ := Aside0.mk ho; have n4_ := Aside0.mk hb; clear HM HR HC HO HB ho hb hg hat; have HM := n0_; have HR := n1_; have HO := n2_; have HC := n3_; have HB := n4_; clear n0_ n1_ n2_ n3_ n4_))
                go_roundg (R.length - (j + 1))
                case measure => omega
                case rel => exact ⟨j + 1, by go_num, by omega, Nat.le_refl _, HM, HR, ⟨by rw [HT2.out]; exact HO.out⟩, ⟨by rw [HT2.out]; exact HC.out⟩, HB⟩
        · have hltz2 : ¬ (j : Int) < (R.length : Int) := by omega
          obtain rfl : j = R.length := by omega
          have HTL := Aside0.mk (show R.take R.length = R from List.take_length)
          rw [HTL.out] at HO HC
          have h := H.out
          clear H
          obtain ⟨A12, c12, e12⟩ := Kd.R_slice HO.out
          subst e12
          obtain ⟨A13, c13, e13⟩ := Kd.R_slice HC.out
          subst e13
          by_cases hc : 0 < (mrg L R).2.length
          · rw [if_pos hc] at h
            simp only [Option.some.injEq, Prod.mk.injEq] at h
            obtain ⟨rfl, rfl, rfl⟩ := h
            have hcz : decide (((mrg L R).2.length : Int) > 0) = true := decide_eq_true (by omega)
            go_wp2
            go_ret3
            exact ⟨_, _, rfl, Kd.R_nil _ _ _ _ _, Kd.R_mono HC.out (fun _ _ => trivial), HB.out⟩
          · rw [if_neg hc] at h
            have hcz : decide (((mrg L R).2.length : Int) > 0) = false := decide_eq_false (by omega)
            obtain ⟨m, h3, h⟩ := Option.bind_eq_some_iff.mp h
            have A3 := Aside0.mk h3
            clear h3
            obtain ⟨⟨t1, t2⟩, h4, h⟩ := Option.bind_eq_some_iff.mp h
            have A4 := Aside0.mk h4
            clear h4
            simp only [Option.some.injEq, Prod.mk.injEq] at h
            obtain ⟨rfl, rfl, rfl⟩ := h
            go_wp2_with (first | (go_at_call 53; (with_reducible refine (impl_edited.calls k _ _ l1 _ _ (mrg L R).1 m _ ?s1 ?s2 ?s3 ?s4 A3.out).mono ?_); (case s1 => exact Kd.C_below HR1.out HB.out); (case s2 => exact HC1.out); (case s3 => exact (Kd.R_reads' HO.out).2.2); (case s4 => exact (Kd.R_reads' HO.out).2.1); rintro e w5 ⟨v5, rfl, ho, hb⟩; have n0_ := Aside0.mk (Kd.R_lower ho (below_size (w := w) HB.out)); have n1_ := Aside0.mk (below_step (w := w) HB.out hb); clear HB ho hb; have HX := n0_; have HB := n1_; clear n0_ n1_) | (go_at_call 62; (with_reducible refine (impl_limited.calls (fun _ => True) _ m t1 t2 w _ HB.out HX.out A4.out).mono ?_); rintro e w6 ⟨v6, rfl, ho, hb, hk⟩; have HY := Aside0.mk ho; have HB6 := Aside0.mk hb; clear ho hb hk))
            go_ret3
            exact ⟨_, _, rfl, Kd.R_mono HY.out (fun _ _ => trivial), Kd.R_nil _ _ _ _ _, HB6.out⟩
end Go.Proofs.Ytblejbgkcgajgaa.Q
end

section
namespace Go.Proofs.Ytblejbgkcgajgaa.Q
open Go.RowKit Go.Proofs.YtblejbgkcgajgaaW.PrintWords Go.Proofs.YtblejbgkcgajgaaW.PrintLast Go.Proofs.YtblejbgkcgajgaaW.PrintMore
attribute [local go_sem] max2_int min2_int max_two min_two max_three min_three max_four min_four   -- for this text's walks alone
set_option linter.unusedVariables false
set_option linter.unusedSimpArgs false
attribute [local go_sem] bin_leq bin_gtr bin_geq
def impl_Edit_50.f (l0 : List (S62)) : Option (Bool) := some (decide ((l0.length : Int) ≤ 4096))
set_option maxHeartbeats 8000000 in
set_option maxRecDepth 100000 in
theorem impl_Edit_50.calls (A0 : Option Addr) (c0 : Nat) (l0 : List (S62)) (r : Bool) (w : World) (hr0 : Kd.C k62 w A0 l0.length l0) (hc0 : l0.length ≤ c0) (h : impl_Edit_50.f l0 = some r) :
    Calls Try.prog 50 #[.slice A0 l0.length c0] w fun e w' => e = .returned (.bool r) ∧ Drawn0 w w' := by
  have HR0 := Aside0.mk hr0
  have HC0 := Aside0.mk hc0
  clear hr0 hc0
  have H : (some (decide ((l0.length : Int) ≤ 4096))) = some r := h
  clear h
  obtain rfl := Option.some.inj H
  go_enter Try.func50, Try.ntmps50
  go_wp2
  go_ret
  exact ⟨by first | rfl | (simp; done) | (simp [*]; done), by repeat (first | exact Drawn0.refl _ | apply Drawn0.step)⟩
end Go.Proofs.Ytblejbgkcgajgaa.Q
end

section
namespace Go.Proofs.Ytblejbgkcgajgaa.Q
open Go.RowKit Go.Proofs.YtblejbgkcgajgaaW.PrintWords Go.Proofs.YtblejbgkcgajgaaW.PrintLast Go.Proofs.YtblejbgkcgajgaaW.PrintMore
attribute [local go_sem] max2_int min2_int max_two min_two max_three min_three max_four min_four   -- for this text's walks alone
set_option linter.unusedVariables false
set_option linter.unusedSimpArgs false
attribute [local go_sem] bin_leq bin_gtr bin_geq
def impl_EditsOK.l0 : Nat → List (S62) → List (S62) → Int → Int → Option (Bool)
  | 0, _, _, _, _ => none
  | k + 1, x0, x5, x6, x7 => if x7 < x6 then (if 0 ≤ x7 then (if x7 < (x5.length : Int) then ((impl_NameOK.f ((rd_T62 x5 x7).f0)).bind fun t770 => (if t770 = true then ((impl_isValue.f ((rd_T62 x5 x7).f1)).bind fun t771 => (if t771 = true then (if (rd_T62 x5 x7).f2 = true then (if ((rd_T62 x5 x7).f1) = 0 then (if x7 > 0 then (if 0 ≤ (wrap64 (x7 - 1)) then (if (wrap64 (x7 - 1)) < (x0.length : Int) then (if ((Op.bytesLess (((rd_T62 x0 (wrap64 (x7 - 1))).f0).toList) (((rd_T62 x5 x7).f0).toList)) = true) then (impl_EditsOK.l0 k x0 x5 x6 (wrap64 (x7 + 1))) else (some false)) else (none)) else (none)) else (impl_EditsOK.l0 k x0 x5 x6 (wrap64 (x7 + 1)))) else (some false)) else (if x7 > 0 then (if 0 ≤ (wrap64 (x7 - 1)) then (if (wrap64 (x7 - 1)) < (x0.length : Int) then (if ((Op.bytesLess (((rd_T62 x0 (wrap64 (x7 - 1))).f0).toList) (((rd_T62 x5 x7).f0).toList)) = true) then (impl_EditsOK.l0 k x0 x5 x6 (wrap64 (x7 + 1))) else (some false)) else (none)) else (none)) else (impl_EditsOK.l0 k x0 x5 x6 (wrap64 (x7 + 1))))) else (some false))) else (some false))) else (none)) else (none)) else (some (decide ((x0.length : Int) ≤ 6)))
def impl_EditsOK.f (k : Nat) (l0 : List (S62)) : Option (Bool) := impl_EditsOK.l0 k l0 l0 (l0.length : Int) 0
def impl_EditsOK.T4 : Bool × List (List Nat × List Nat) := (true, [([], []), ([0], [0]), ([1], [1]), ([2], [2]), ([3, 2], [3]), ([4], [4]), ([5, 4], [4, 5]), ([6, 4, 4], [4, 6]), ([7, 4], [4, 7]), ([4, 8], [4, 8]), ([9, 7], [9]), ([10], [10]), ([11, 10], [10, 11]), ([12, 10, 10], [10, 12]), ([13], [13]), ([14, 13], [13, 14]), ([15, 13], [13, 15]), ([13, 16, 10], [10, 13, 16]), ([10, 17], [10, 17]), ([18, 13], [18]), ([19], [19]), ([20, 19], [19, 20]), ([21, 19, 19], [19, 21]), ([22], [22]), ([22], [22]), ([24, 22], [22, 24]), ([23, 25, 22], [22, 23, 25]), ([26, 22], [22, 26]), ([27, 22], [22, 27]), ([22], [22]), ([29, 22], [22, 29]), ([28, 30, 22], [22, 28, 30]), ([22, 31, 19], [19, 22, 31]), ([19, 32], [19, 32])])
def impl_EditsOK.B4 : List Nat := [0, 1, 3, 7, 15, 31, 63, 127, 255, 511, 1023, 2047, 4095, 8191, 16383, 32767, 65535, 131071, 262143, 524287, 1048575, 2097151, 4194303, 8388607, 8388607, 25165823, 67108863, 134217727, 268435455, 8388607, 545259519, 2147483647, 4294967295, 8589934591]
theorem impl_EditsOK.tab4 : rtab .any (opsOf Try.f52 4) = impl_EditsOK.T4 := by kernel_rfl
theorem impl_EditsOK.bits4 : waitsOk impl_EditsOK.T4.2 impl_EditsOK.B4 = true := by kernel_rfl
set_option maxHeartbeats 8000000 in
set_option maxRecDepth 100000 in
theorem impl_EditsOK.calls (k : Nat) (A0 : Option Addr) (c0 : Nat) (l0 : List (S62)) (r : Bool) (w : World) (hr0 : Kd.C k62 w A0 l0.length l0) (hc0 : l0.length ≤ c0) (h : impl_EditsOK.f k l0 = some r) :
    Calls Try.prog 52 #[.slice A0 l0.length c0] w fun e w' => e = .returned (.bool r) ∧ Below w.heap.size w w' := by
  have hu62 := Try.underlying62
  have HR0 := Aside0.mk hr0
  have HC0 := Aside0.mk hc0
  clear hr0 hc0
  have HB := Aside0.mk (Below.refl w.heap.size w)
  have H : (impl_EditsOK.l0 k l0 l0 (l0.length : Int) 0) = some r := h
  clear h
  have H' := Aside0.mk H
  clear H
  go_enter Try.func52, Try.ntmps52
  go_wp2
  go_loopg [7] k (fun kq v7 w' => ∃ (x7_1 : Int), v7 = .int .i64 x7_1 ∧ Aside0 (impl_EditsOK.l0 kq l0 l0 (l0.length : Int) x7_1 = some r) ∧ Aside0 (kq ≤ k) ∧ Aside0 (Below w.heap.size w w'))
  case atStart => exact ⟨(0), vE, H', ⟨Nat.le_refl _⟩, ⟨bW⟩⟩
  case round =>
    clear H'
    obtain ⟨x7_1, rfl, HA, HK1, HB⟩ := hrel
    cases gk with
    | zero => exact absurd HA.out (by simp [impl_EditsOK.l0])
    | succ k1 =>
      have H := HA.out
      clear HA
      simp only [impl_EditsOK.l0] at H
      by_cases c2 : x7_1 < (l0.length : Int)
      · rw [if_pos c2] at H
        have c2b0 : decide (x7_1 < (l0.length : Int)) = true := decide_eq_true c2
        clear c2
        by_cases c3 : 0 ≤ x7_1
        · rw [if_pos c3] at H
          have c3b0 : decide (0 ≤ x7_1) = true := decide_eq_true c3
          clear c3
          by_cases c4 : x7_1 < (l0.length : Int)
          · rw [if_pos c4] at H
            have c4b0 : decide (x7_1 < (l0.length : Int)) = true := decide_eq_true c4
            clear c4
            replace H := Option.bind_eq_some_iff.mp H
            obtain ⟨t770, A50, H⟩ := H
            replace H : (if t770 = true then ((impl_isValue.f ((rd_T62 l0 x7_1).f1)).bind fun t771 => (if t771 = true then (if (rd_T62 l0 x7_1).f2 = true then (if ((rd_T62 l0 x7_1).f1) = 0 then (if x7_1 > 0 then (if 0 ≤ (wrap64 (x7_1 - 1)) then (if (wrap64 (x7_1 - 1)) < (l0.length : Int) then (if ((Op.bytesLess (((rd_T62 l0 (wrap64 (x7_1 - 1))).f0).toList) (((rd_T62 l0 x7_1).f0).toList)) = true) then (impl_EditsOK.l0 k1 l0 l0 (l0.length : Int) (wrap64 (x7_1 + 1))) else (some false)) else (none)) else (none)) else (impl_EditsOK.l0 k1 l0 l0 (l0.length : Int) (wrap64 (x7_1 + 1)))) else (some false)) else (if x7_1 > 0 then (if 0 ≤ (wrap64 (x7_1 - 1)) then (if (wrap64 (x7_1 - 1)) < (l0.length : Int) then (if ((Op.bytesLess (((rd_T62 l0 (wrap64 (x7_1 - 1))).f0).toList) (((rd_T62 l0 x7_1).f0).toList)) = true) then (impl_EditsOK.l0 k1 l0 l0 (l0.length : Int) (wrap64 (x7_1 + 1))) else (some false)) else (none)) else (none)) else (impl_EditsOK.l0 k1 l0 l0 (l0.length : Int) (wrap64 (x7_1 + 1))))) else (some false))) else (some false)) = some r := H
            have A5 := Aside0.mk A50
            clear A50
            by_cases c6 : t770 = true
            · subst c6
              have H1 : ((impl_isValue.f ((rd_T62 l0 x7_1).f1)).bind fun t771 => (if t771 = true then (if (rd_T62 l0 x7_1).f2 = true then (if ((rd_T62 l0 x7_1).f1) = 0 then (if x7_1 > 0 then (if 0 ≤ (wrap64 (x7_1 - 1)) then (if (wrap64 (x7_1 - 1)) < (l0.length : Int) then (if ((Op.bytesLess (((rd_T62 l0 (wrap64 (x7_1 - 1))).f0).toList) (((rd_T62 l0 x7_1).f0).toList)) = true) then (impl_EditsOK.l0 k1 l0 l0 (l0.length : Int) (wrap64 (x7_1 + 1))) else (some false)) else (none)) else (none)) else (impl_EditsOK.l0 k1 l0 l0 (l0.length : Int) (wrap64 (x7_1 + 1)))) else (some false)) else (if x7_1 > 0 then (if 0 ≤ (wrap64 (x7_1 - 1)) then (if (wrap64 (x7_1 - 1)) < (l0.length : Int) then (if ((Op.bytesLess (((rd_T62 l0 (wrap64 (x7_1 - 1))).f0).toList) (((rd_T62 l0 x7_1).f0).toList)) = true) then (impl_EditsOK.l0 k1 l0 l0 (l0.length : Int) (wrap64 (x7_1 + 1))) else (some false)) else (none)) else (none)) else (impl_EditsOK.l0 k1 l0 l0 (l0.length : Int) (wrap64 (x7_1 + 1))))) else (some false))) = some r := by rw [if_pos rfl] at H; exact H
              clear H
              have H := H1
              clear H1
              replace H := Option.bind_eq_some_iff.mp H
              obtain ⟨t771, A70, H⟩ := H
              replace H : (if t771 = true then (if (rd_T62 l0 x7_1).f2 = true then (if ((rd_T62 l0 x7_1).f1) = 0 then (if x7_1 > 0 then (if 0 ≤ (wrap64 (x7_1 - 1)) then (if (wrap64 (x7_1 - 1)) < (l0.length : Int) then (if ((Op.bytesLess (((rd_T62 l0 (wrap64 (x7_1 - 1))).f0).toList) (((rd_T62 l0 x7_1).f0).toList)) = true) then (impl_EditsOK.l0 k1 l0 l0 (l0.length : Int) (wrap64 (x7_1 + 1))) else (some false)) else (none)) else (none)) else (impl_EditsOK.l0 k1 l0 l0 (l0.length : Int) (wrap64 (x7_1 + 1)))) else (some false)) else (if x7_1 > 0 then (if 0 ≤ (wrap64 (x7_1 - 1)) then (if (wrap64 (x7_1 - 1)) < (l0.length : Int) then (if ((Op.bytesLess (((rd_T62 l0 (wrap64 (x7_1 - 1))).f0).toList) (((rd_T62 l0 x7_1).f0).toList)) = true) then (impl_EditsOK.l0 k1 l0 l0 (l0.length : Int) (wrap64 (x7_1 + 1))) else (some false)) else (none)) else (none)) else (impl_EditsOK.l0 k1 l0 l0 (l0.length : Int) (wrap64 (x7_1 + 1))))) else (some false)) = some r := H
              have A7 := Aside0.mk A70
              clear A70
              by_cases c8 : t771 = true
              · subst c8
                have H1 : (if (rd_T62 l0 x7_1).f2 = true then (if ((rd_T62 l0 x7_1).f1) = 0 then (if x7_1 > 0 then (if 0 ≤ (wrap64 (x7_1 - 1)) then (if (wrap64 (x7_1 - 1)) < (l0.length : Int) then (if ((Op.bytesLess (((rd_T62 l0 (wrap64 (x7_1 - 1))).f0).toList) (((rd_T62 l0 x7_1).f0).toList)) = true) then (impl_EditsOK.l0 k1 l0 l0 (l0.length : Int) (wrap64 (x7_1 + 1))) else (some false)) else (none)) else (none)) else (impl_EditsOK.l0 k1 l0 l0 (l0.length : Int) (wrap64 (x7_1 + 1)))) else (some false)) else (if x7_1 > 0 then (if 0 ≤ (wrap64 (x7_1 - 1)) then (if (wrap64 (x7_1 - 1)) < (l0.length : Int) then (if ((Op.bytesLess (((rd_T62 l0 (wrap64 (x7_1 - 1))).f0).toList) (((rd_T62 l0 x7_1).f0).toList)) = true) then (impl_EditsOK.l0 k1 l0 l0 (l0.length : Int) (wrap64 (x7_1 + 1))) else (some false)) else (none)) else (none)) else (impl_EditsOK.l0 k1 l0 l0 (l0.length : Int) (wrap64 (x7_1 + 1))))) = some r := by rw [if_pos rfl] at H; exact H
                clear H
                have H := H1
                clear H1
                obtain ⟨bq9, hbq9⟩ : ∃ b_ : Bool, b_ = ((rd_T62 l0 x7_1).f2) := ⟨_, rfl⟩
                replace H : (if bq9 = true then (if ((rd_T62 l0 x7_1).f1) = 0 then (if x7_1 > 0 then (if 0 ≤ (wrap64 (x7_1 - 1)) then (if (wrap64 (x7_1 - 1)) < (l0.length : Int) then (if ((Op.bytesLess (((rd_T62 l0 (wrap64 (x7_1 - 1))).f0).toList) (((rd_T62 l0 x7_1).f0).toList)) = true) then (impl_EditsOK.l0 k1 l0 l0 (l0.length : Int) (wrap64 (x7_1 + 1))) else (some false)) else (none)) else (none)) else (impl_EditsOK.l0 k1 l0 l0 (l0.length : Int) (wrap64 (x7_1 + 1)))) else (some false)) else (if x7_1 > 0 then (if 0 ≤ (wrap64 (x7_1 - 1)) then (if (wrap64 (x7_1 - 1)) < (l0.length : Int) then (if ((Op.bytesLess (((rd_T62 l0 (wrap64 (x7_1 - 1))).f0).toList) (((rd_T62 l0 x7_1).f0).toList)) = true) then (impl_EditsOK.l0 k1 l0 l0 (l0.length : Int) (wrap64 (x7_1 + 1))) else (some false)) else (none)) else (none)) else (impl_EditsOK.l0 k1 l0 l0 (l0.length : Int) (wrap64 (x7_1 + 1))))) = some r := by rw [← hbq9] at H; exact H
                have Nbq9 := Aside0.mk hbq9
                clear hbq9
                by_cases c10 : bq9 = true
                · subst c10
                  have H1 : (if ((rd_T62 l0 x7_1).f1) = 0 then (if x7_1 > 0 then (if 0 ≤ (wrap64 (x7_1 - 1)) then (if (wrap64 (x7_1 - 1)) < (l0.length : Int) then (if ((Op.bytesLess (((rd_T62 l0 (wrap64 (x7_1 - 1))).f0).toList) (((rd_T62 l0 x7_1).f0).toList)) = true) then (impl_EditsOK.l0 k1 l0 l0 (l0.length : Int) (wrap64 (x7_1 + 1))) else (some false)) else (none)) else (none)) else (impl_EditsOK.l0 k1 l0 l0 (l0.length : Int) (wrap64 (x7_1 + 1)))) else (some false)) = some r := by rw [if_pos rfl] at H; exact H
                  clear H
                  have H := H1
                  clear H1
                  by_cases c11 : ((rd_T62 l0 x7_1).f1) = 0
                  · rw [if_pos c11] at H
                    have c11b0 : (((rd_T62 l0 x7_1).f1) == 0) = true := beq_iff_eq.mpr c11
                    have c11b1 : (((rd_T62 l0 x7_1).f1) != 0) = false := bne_eq_false_iff_eq.mpr c11
                    clear c11
                    by_cases c12 : x7_1 > 0
                    · rw [if_pos c12] at H
                      have c12b0 : decide (0 < x7_1) = true := decide_eq_true c12
                      clear c12
                      obtain ⟨ji13, hji13⟩ : ∃ j_ : Int, (wrap64 (x7_1 - 1)) = j_ := ⟨_, rfl⟩
                      replace H : (if 0 ≤ (ji13) then (if (ji13) < (l0.length : Int) then (if ((Op.bytesLess (((rd_T62 l0 (ji13)).f0).toList) (((rd_T62 l0 x7_1).f0).toList)) = true) then (impl_EditsOK.l0 k1 l0 l0 (l0.length : Int) (wrap64 (x7_1 + 1))) else (some false)) else (none)) else (none)) = some r := by (rw [hji13] at H; exact H)
                      have hji13w : (IntKind.i64.wrap (x7_1 - 1)) = ji13 := (i64_w _).trans hji13
                      by_cases c14 : 0 ≤ (ji13)
                      · rw [if_pos c14] at H
                        have c14b0 : decide (0 ≤ (ji13)) = true := decide_eq_true c14
                        clear c14
                        by_cases c15 : (ji13) < (l0.length : Int)
                        · rw [if_pos c15] at H
                          have c15b0 : decide ((ji13) < (l0.length : Int)) = true := decide_eq_true c15
                          clear c15
                          by_cases c16 : ((Op.bytesLess (((rd_T62 l0 (ji13)).f0).toList) (((rd_T62 l0 x7_1).f0).toList)) = true)
                          · rw [if_pos c16] at H
                            have c16b0 : (Op.bytesLess (((rd_T62 l0 (ji13)).f0).toList) (((rd_T62 l0 x7_1).f0).toList)) = true := c16
                            clear c16
                            have H' := Aside0.mk H
                            clear H
                            have p768 : 0 ≤ (x7_1 : Int) := odt
                            have q768 : x7_1 < (l0.length : Int) := odt
                            obtain ⟨ad768, e768, hx768_0, hx768_1, hx768_2⟩ := at_T62 HR0.out x7_1 p768 q768
                            (try rw [← Nbq9.out] at hx768_2)
                            cases e768
                            replace hx768_0 := (HB.out.cell (World.block_lt_of_cell? w _ hx768_0)).trans hx768_0
                            replace hx768_1 := (HB.out.cell (World.block_lt_of_cell? w _ hx768_1)).trans hx768_1
                            replace hx768_2 := (HB.out.cell (World.block_lt_of_cell? w _ hx768_2)).trans hx768_2
                            replace p768 := eq_true p768
                            replace q768 := eq_true q768
                            try go_wp2_with (((with_reducible refine gate_dst (N := 4) rfl ?_); refine bE (N := 4) (cs := #[.string (⟨#[]⟩ : ByteArray), .int .i64 0, .bool false]) (t := 62) ?_; intro gb769 hg w17 hbox hb; have n0_ := Aside0.mk (below_step (w := w) bW hb); have n1_ := Aside0.mk (hbox); have n2_ := Aside0.mk (gS (w := w) hg); have n3_ := n2_; clear HB; have HB := n0_; have BK769 := n1_; have GW769 := n2_; have GE769 := n3_; clear n0_ n1_ n2_ n3_; clear hb hbox hg; obtain ⟨hcz18_0, hcz18_1, hcz18_2⟩ := cz3 BK769; obtain ⟨hfz18_0, hfz18_1, hfz18_2⟩ := fz3 BK769))
                            have n0_ : Aside0 ((((w17.setCell ⟨gb769, 0, none⟩ (.string ((rd_T62 l0 x7_1).f0))).setCell ⟨gb769, 1, none⟩ (.int .i64 ((rd_T62 l0 x7_1).f1))).setCell ⟨gb769, 2, none⟩ (.bool true)).heap[gb769]? = some (.cells #[.string ((rd_T62 l0 x7_1).f0), .int .i64 ((rd_T62 l0 x7_1).f1), .bool true] 62 (0, 0))) := ⟨by refine blk_put (cs := #[.string ((rd_T62 l0 x7_1).f0), .int .i64 ((rd_T62 l0 x7_1).f1), .bool false]) ?_ 2 _ rfl; refine blk_put (cs := #[.string ((rd_T62 l0 x7_1).f0), .int .i64 0, .bool false]) ?_ 1 _ rfl; refine blk_put (cs := #[.string (⟨#[]⟩ : ByteArray), .int .i64 0, .bool false]) ?_ 0 _ rfl; exact BK769.out⟩
                            have n1_ : Aside0 (Below w.heap.size w (((w17.setCell ⟨gb769, 0, none⟩ (.string ((rd_T62 l0 x7_1).f0))).setCell ⟨gb769, 1, none⟩ (.int .i64 ((rd_T62 l0 x7_1).f1))).setCell ⟨gb769, 2, none⟩ (.bool true))) := ⟨bW⟩
                            (try clear BK769)
                            (try clear HB)
                            generalize (((w17.setCell ⟨gb769, 0, none⟩ (.string ((rd_T62 l0 x7_1).f0))).setCell ⟨gb769, 1, none⟩ (.int .i64 ((rd_T62 l0 x7_1).f1))).setCell ⟨gb769, 2, none⟩ (.bool true)) = w19 at n0_ n1_ ⊢
                            have BK769 := n0_
                            have HB := n1_
                            clear n0_ n1_
                            have n0_ := Aside0.mk (blk_drew BK769.out)
                            have n1_ := Aside0.mk (below_drew1 HB.out)
                            clear BK769
                            clear HB
                            have BK769 := n0_
                            have HB := n1_
                            clear n0_ n1_
                            have p772 : 0 ≤ ((ji13) : Int) := odt
                            have q772 : (ji13) < (l0.length : Int) := odt
                            obtain ⟨ad772, e772, hx772_0, hx772_1, hx772_2⟩ := at_T62 HR0.out (ji13) p772 q772
                            have hw772_2 := hx772_2
                            have hw772_1 := hx772_1
                            have hw772_0 := hx772_0
                            obtain rfl : ad768 = ad772 := (by injection e772)
                            replace hx772_0 := (HB.out.cell (World.block_lt_of_cell? w _ hx772_0)).trans hx772_0
                            replace hx772_1 := (HB.out.cell (World.block_lt_of_cell? w _ hx772_1)).trans hx772_1
                            replace hx772_2 := (HB.out.cell (World.block_lt_of_cell? w _ hx772_2)).trans hx772_2
                            replace p772 := eq_true p772
                            replace q772 := eq_true q772
                            refine start_ (n := 34) (S := fun w' => w'.cell? ⟨gb769, 0, none⟩ = some (.string ((rd_T62 l0 x7_1).f0)) ∧ w'.cell? ⟨gb769, 1, none⟩ = some (.int .i64 ((rd_T62 l0 x7_1).f1)) ∧ w'.cell? ⟨gb769, 2, none⟩ = some (.bool true) ∧ w'.cell? (ad768.add (((ji13)).toNat * 3)) = some (.string ((rd_T62 l0 (ji13)).f0)) ∧ w'.cell? ⟨(ad768.add (((ji13)).toNat * 3)).block, (ad768.add (((ji13)).toNat * 3)).off + 1, none⟩ = some (.int .i64 ((rd_T62 l0 (ji13)).f1)) ∧ w'.cell? ⟨(ad768.add (((ji13)).toNat * 3)).block, (ad768.add (((ji13)).toNat * 3)).off + 2, none⟩ = some (.bool ((rd_T62 l0 (ji13)).f2))) (ds := []) (bs 34 0) (by kernel_rfl) rfl rfl ⟨(blk_cell BK769.out 0).trans rfl, (blk_cell BK769.out 1).trans rfl, (blk_cell BK769.out 2).trans rfl, ((HB.out.cell (World.block_lt_of_cell? w _ hw772_0)).trans hw772_0), ((HB.out.cell (World.block_lt_of_cell? w _ hw772_1)).trans hw772_1), ((HB.out.cell (World.block_lt_of_cell? w _ hw772_2)).trans hw772_2)⟩ (fun hHeld => ?_); refine with_tabW impl_EditsOK.tab4 impl_EditsOK.bits4 (fun HT_ HW_ => ?_)
                            generalize w19.drew = w20 at BK769 HB hx772_0 hx772_1 hx772_2 hHeld ⊢
                            refine pz 0 12 (bs 34 1) HT_ ?_
                            refine tz 1 13 (bs 34 3) HT_ HW_ hHeld ?_
                            refine one_ (i := 2) (N := some 14) (bs 34 7) rfl rfl (one_of HT_.out (by kernel_rfl)) (by decide) (fun K hK => ?_)
                            refine goes_ Try.func65 (by kernel_rfl) rfl #[.string ((rd_T62 l0 x7_1).f0)] (by rfl) rfl rfl gA ?_
                            with_reducible refine (impl_NameOK.calls ((rd_T62 l0 x7_1).f0) true _ A5.out).mono ?_
                            rintro e w21 ⟨rfl, hb⟩
                            refine ⟨_, rfl, ?_⟩
                            have n0_ := Aside0.mk (kb BK769 hb)
                            have n1_ := Aside0.mk (below_step (w := w) bW hb)
                            clear BK769
                            clear HB
                            have BK769 := n0_
                            have HB := n1_
                            clear n0_ n1_
                            (try clear hb)
                            refine hK.out _ _ ⟨(blk_cell BK769.out 0).trans rfl, (blk_cell BK769.out 1).trans rfl, (blk_cell BK769.out 2).trans rfl, ((HB.out.cell (World.block_lt_of_cell? w _ hw772_0)).trans hw772_0), ((HB.out.cell (World.block_lt_of_cell? w _ hw772_1)).trans hw772_1), ((HB.out.cell (World.block_lt_of_cell? w _ hw772_2)).trans hw772_2)⟩ (fun hHeld => ?_)
                            clear hK K
                            refine norm_ (a' := ?_) ?_ ?_
                            rotate_left
                            · show Act.put _ (some 14) _ = _
                              simp only [Act.put, List.setIfInBounds_toArray, List.set_cons_zero, List.set_cons_succ, i64_w, i32_w]
                              rfl
                            refine pz 3 15 (bs 34 15) HT_ ?_
                            refine pz 4 16 (bs 34 31) HT_ ?_
                            refine pz 5 17 (bs 34 63) HT_ ?_
                            refine tz 6 18 (bs 34 127) HT_ HW_ hHeld ?_
                            refine one_ (i := 7) (N := some 19) (bs 34 255) rfl rfl (one_of HT_.out (by kernel_rfl)) (by decide) (fun K hK => ?_)
                            refine goes_ Try.func66 (by kernel_rfl) rfl #[.int .i64 ((rd_T62 l0 x7_1).f1)] (by rfl) rfl rfl gA ?_
                            with_reducible refine (impl_isValue.calls ((rd_T62 l0 x7_1).f1) true _ A7.out).mono ?_
                            rintro e w' ⟨rfl, ⟨nd, rfl⟩⟩
                            refine ⟨_, rfl, ?_⟩
                            refine hK.out _ _ ⟨(blk_cell BK769.out 0).trans rfl, (blk_cell BK769.out 1).trans rfl, (blk_cell BK769.out 2).trans rfl, ((HB.out.cell (World.block_lt_of_cell? w _ hw772_0)).trans hw772_0), ((HB.out.cell (World.block_lt_of_cell? w _ hw772_1)).trans hw772_1), ((HB.out.cell (World.block_lt_of_cell? w _ hw772_2)).trans hw772_2)⟩ (fun hHeld => ?_)
                            clear hK K
                            refine norm_ (a' := ?_) ?_ ?_
                            rotate_left
                            · show Act.put _ (some 19) _ = _
                              simp only [Act.put, List.setIfInBounds_toArray, List.set_cons_zero, List.set_cons_succ, i64_w, i32_w]
                              rfl
                            refine pz 8 20 (bs 34 511) HT_ ?_
                            refine pz 9 21 (bs 34 1023) HT_ ?_
                            refine pz 10 22 (bs 34 2047) HT_ ?_
                            refine pz 11 23 (bs 34 4095) HT_ ?_
                            refine tz 12 24 (bs 34 8191) HT_ HW_ hHeld ?_
                            refine pz 13 25 (bs 34 16383) HT_ ?_
                            refine pz 14 26 (bs 34 32767) HT_ ?_
                            refine tz 15 27 (bs 34 65535) HT_ HW_ hHeld ?_
                            refine pz 16 28 (bs 34 131071) HT_ ?_
                            refine pz 17 29 (bs 34 262143) HT_ ?_
                            refine pz 18 30 (bs 34 524287) HT_ ?_
                            refine pz 19 31 (bs 34 1048575) HT_ ?_
                            refine pz 20 32 (bs 34 2097151) HT_ ?_
                            refine pz 21 33 (bs 34 4194303) HT_ ?_
                            refine pz 22 34 (bs 34 8388607) HT_ ?_
                            refine pz 23 35 (bs 34 16777215) HT_ ?_
                            refine pz 24 36 (bs 34 33554431) HT_ ?_
                            refine pz 25 37 (bs 34 67108863) HT_ ?_
                            refine pz 26 38 (bs 34 134217727) HT_ ?_
                            refine pz 27 39 (bs 34 268435455) HT_ ?_
                            refine pz 29 41 (bs 34 805306367) HT_ ?_
                            refine tz 28 40 (bs 34 1073741823) HT_ HW_ hHeld ?_
                            refine tz 30 42 (bs 34 2147483647) HT_ HW_ hHeld ?_
                            refine pz 31 43 (bs 34 4294967295) HT_ ?_
                            refine pz 32 44 (bs 34 8589934591) HT_ ?_
                            refine pz 33 45 (bs 34 17179869183) HT_ ?_
                            refine done_ (done_of HT_.out (by kernel_rfl)) ?_
                            try go_wp2
                            go_roundg k1
                            case measure => have := HK1.out; omega
                            case rel => exact ⟨(wrap64 (x7_1 + 1)), vE, H', ⟨by have := HK1.out; omega⟩, ⟨bW⟩⟩
                          · rw [if_neg c16] at H
                            have c16b0 : (Op.bytesLess (((rd_T62 l0 (ji13)).f0).toList) (((rd_T62 l0 x7_1).f0).toList)) = false := by simpa using c16
                            clear c16
                            obtain rfl := Option.some.inj H
                            have p768 : 0 ≤ (x7_1 : Int) := odt
                            have q768 : x7_1 < (l0.length : Int) := odt
                            obtain ⟨ad768, e768, hx768_0, hx768_1, hx768_2⟩ := at_T62 HR0.out x7_1 p768 q768
                            (try rw [← Nbq9.out] at hx768_2)
                            cases e768
                            replace hx768_0 := (HB.out.cell (World.block_lt_of_cell? w _ hx768_0)).trans hx768_0
                            replace hx768_1 := (HB.out.cell (World.block_lt_of_cell? w _ hx768_1)).trans hx768_1
                            replace hx768_2 := (HB.out.cell (World.block_lt_of_cell? w _ hx768_2)).trans hx768_2
                            replace p768 := eq_true p768
                            replace q768 := eq_true q768
                            try go_wp2_with (((with_reducible refine gate_dst (N := 4) rfl ?_); refine bE (N := 4) (cs := #[.string (⟨#[]⟩ : ByteArray), .int .i64 0, .bool false]) (t := 62) ?_; intro gb769 hg w22 hbox hb; have n0_ := Aside0.mk (below_step (w := w) bW hb); have n1_ := Aside0.mk (hbox); have n2_ := Aside0.mk (gS (w := w) hg); have n3_ := n2_; clear HB; have HB := n0_; have BK769 := n1_; have GW769 := n2_; have GE769 := n3_; clear n0_ n1_ n2_ n3_; clear hb hbox hg; obtain ⟨hcz23_0, hcz23_1, hcz23_2⟩ := cz3 BK769; obtain ⟨hfz23_0, hfz23_1, hfz23_2⟩ := fz3 BK769))
                            have n0_ : Aside0 ((((w22.setCell ⟨gb769, 0, none⟩ (.string ((rd_T62 l0 x7_1).f0))).setCell ⟨gb769, 1, none⟩ (.int .i64 ((rd_T62 l0 x7_1).f1))).setCell ⟨gb769, 2, none⟩ (.bool true)).heap[gb769]? = some (.cells #[.string ((rd_T62 l0 x7_1).f0), .int .i64 ((rd_T62 l0 x7_1).f1), .bool true] 62 (0, 0))) := ⟨by refine blk_put (cs := #[.string ((rd_T62 l0 x7_1).f0), .int .i64 ((rd_T62 l0 x7_1).f1), .bool false]) ?_ 2 _ rfl; refine blk_put (cs := #[.string ((rd_T62 l0 x7_1).f0), .int .i64 0, .bool false]) ?_ 1 _ rfl; refine blk_put (cs := #[.string (⟨#[]⟩ : ByteArray), .int .i64 0, .bool false]) ?_ 0 _ rfl; exact BK769.out⟩
                            have n1_ : Aside0 (Below w.heap.size w (((w22.setCell ⟨gb769, 0, none⟩ (.string ((rd_T62 l0 x7_1).f0))).setCell ⟨gb769, 1, none⟩ (.int .i64 ((rd_T62 l0 x7_1).f1))).setCell ⟨gb769, 2, none⟩ (.bool true))) := ⟨bW⟩
                            (try clear BK769)
                            (try clear HB)
                            generalize (((w22.setCell ⟨gb769, 0, none⟩ (.string ((rd_T62 l0 x7_1).f0))).setCell ⟨gb769, 1, none⟩ (.int .i64 ((rd_T62 l0 x7_1).f1))).setCell ⟨gb769, 2, none⟩ (.bool true)) = w24 at n0_ n1_ ⊢
                            have BK769 := n0_
                            have HB := n1_
                            clear n0_ n1_
                            have n0_ := Aside0.mk (blk_drew BK769.out)
                            have n1_ := Aside0.mk (below_drew1 HB.out)
                            clear BK769
                            clear HB
                            have BK769 := n0_
                            have HB := n1_
                            clear n0_ n1_
                            have p772 : 0 ≤ ((ji13) : Int) := odt
                            have q772 : (ji13) < (l0.length : Int) := odt
                            obtain ⟨ad772, e772, hx772_0, hx772_1, hx772_2⟩ := at_T62 HR0.out (ji13) p772 q772
                            have hw772_2 := hx772_2
                            have hw772_1 := hx772_1
                            have hw772_0 := hx772_0
                            obtain rfl : ad768 = ad772 := (by injection e772)
                            replace hx772_0 := (HB.out.cell (World.block_lt_of_cell? w _ hx772_0)).trans hx772_0
                            replace hx772_1 := (HB.out.cell (World.block_lt_of_cell? w _ hx772_1)).trans hx772_1
                            replace hx772_2 := (HB.out.cell (World.block_lt_of_cell? w _ hx772_2)).trans hx772_2
                            replace p772 := eq_true p772
                            replace q772 := eq_true q772
                            refine start_ (n := 34) (S := fun w' => w'.cell? ⟨gb769, 0, none⟩ = some (.string ((rd_T62 l0 x7_1).f0)) ∧ w'.cell? ⟨gb769, 1, none⟩ = some (.int .i64 ((rd_T62 l0 x7_1).f1)) ∧ w'.cell? ⟨gb769, 2, none⟩ = some (.bool true) ∧ w'.cell? (ad768.add (((ji13)).toNat * 3)) = some (.string ((rd_T62 l0 (ji13)).f0)) ∧ w'.cell? ⟨(ad768.add (((ji13)).toNat * 3)).block, (ad768.add (((ji13)).toNat * 3)).off + 1, none⟩ = some (.int .i64 ((rd_T62 l0 (ji13)).f1)) ∧ w'.cell? ⟨(ad768.add (((ji13)).toNat * 3)).block, (ad768.add (((ji13)).toNat * 3)).off + 2, none⟩ = some (.bool ((rd_T62 l0 (ji13)).f2))) (ds := []) (bs 34 0) (by kernel_rfl) rfl rfl ⟨(blk_cell BK769.out 0).trans rfl, (blk_cell BK769.out 1).trans rfl, (blk_cell BK769.out 2).trans rfl, ((HB.out.cell (World.block_lt_of_cell? w _ hw772_0)).trans hw772_0), ((HB.out.cell (World.block_lt_of_cell? w _ hw772_1)).trans hw772_1), ((HB.out.cell (World.block_lt_of_cell? w _ hw772_2)).trans hw772_2)⟩ (fun hHeld => ?_); refine with_tabW impl_EditsOK.tab4 impl_EditsOK.bits4 (fun HT_ HW_ => ?_)
                            generalize w24.drew = w25 at BK769 HB hx772_0 hx772_1 hx772_2 hHeld ⊢
                            refine pz 0 12 (bs 34 1) HT_ ?_
                            refine tz 1 13 (bs 34 3) HT_ HW_ hHeld ?_
                            refine one_ (i := 2) (N := some 14) (bs 34 7) rfl rfl (one_of HT_.out (by kernel_rfl)) (by decide) (fun K hK => ?_)
                            refine goes_ Try.func65 (by kernel_rfl) rfl #[.string ((rd_T62 l0 x7_1).f0)] (by rfl) rfl rfl gA ?_
                            with_reducible refine (impl_NameOK.calls ((rd_T62 l0 x7_1).f0) true _ A5.out).mono ?_
                            rintro e w26 ⟨rfl, hb⟩
                            refine ⟨_, rfl, ?_⟩
                            have n0_ := Aside0.mk (kb BK769 hb)
                            have n1_ := Aside0.mk (below_step (w := w) bW hb)
                            clear BK769
                            clear HB
                            have BK769 := n0_
                            have HB := n1_
                            clear n0_ n1_
                            (try clear hb)
                            refine hK.out _ _ ⟨(blk_cell BK769.out 0).trans rfl, (blk_cell BK769.out 1).trans rfl, (blk_cell BK769.out 2).trans rfl, ((HB.out.cell (World.block_lt_of_cell? w _ hw772_0)).trans hw772_0), ((HB.out.cell (World.block_lt_of_cell? w _ hw772_1)).trans hw772_1), ((HB.out.cell (World.block_lt_of_cell? w _ hw772_2)).trans hw772_2)⟩ (fun hHeld => ?_)
                            clear hK K
                            refine norm_ (a' := ?_) ?_ ?_
                            rotate_left
                            · show Act.put _ (some 14) _ = _
                              simp only [Act.put, List.setIfInBounds_toArray, List.set_cons_zero, List.set_cons_succ, i64_w, i32_w]
                              rfl
                            refine pz 3 15 (bs 34 15) HT_ ?_
                            refine pz 4 16 (bs 34 31) HT_ ?_
                            refine pz 5 17 (bs 34 63) HT_ ?_
                            refine tz 6 18 (bs 34 127) HT_ HW_ hHeld ?_
                            refine one_ (i := 7) (N := some 19) (bs 34 255) rfl rfl (one_of HT_.out (by kernel_rfl)) (by decide) (fun K hK => ?_)
                            refine goes_ Try.func66 (by kernel_rfl) rfl #[.int .i64 ((rd_T62 l0 x7_1).f1)] (by rfl) rfl rfl gA ?_
                            with_reducible refine (impl_isValue.calls ((rd_T62 l0 x7_1).f1) true _ A7.out).mono ?_
                            rintro e w' ⟨rfl, ⟨nd, rfl⟩⟩
                            refine ⟨_, rfl, ?_⟩
                            refine hK.out _ _ ⟨(blk_cell BK769.out 0).trans rfl, (blk_cell BK769.out 1).trans rfl, (blk_cell BK769.out 2).trans rfl, ((HB.out.cell (World.block_lt_of_cell? w _ hw772_0)).trans hw772_0), ((HB.out.cell (World.block_lt_of_cell? w _ hw772_1)).trans hw772_1), ((HB.out.cell (World.block_lt_of_cell? w _ hw772_2)).trans hw772_2)⟩ (fun hHeld => ?_)
                            clear hK K
                            refine norm_ (a' := ?_) ?_ ?_
                            rotate_left
                            · show Act.put _ (some 19) _ = _
                              simp only [Act.put, List.setIfInBounds_toArray, List.set_cons_zero, List.set_cons_succ, i64_w, i32_w]
                              rfl
                            refine pz 8 20 (bs 34 511) HT_ ?_
                            refine pz 9 21 (bs 34 1023) HT_ ?_
                            refine pz 10 22 (bs 34 2047) HT_ ?_
                            refine pz 11 23 (bs 34 4095) HT_ ?_
                            refine tz 12 24 (bs 34 8191) HT_ HW_ hHeld ?_
                            refine pz 13 25 (bs 34 16383) HT_ ?_
                            refine pz 14 26 (bs 34 32767) HT_ ?_
                            refine tz 15 27 (bs 34 65535) HT_ HW_ hHeld ?_
                            refine pz 16 28 (bs 34 131071) HT_ ?_
                            refine pz 17 29 (bs 34 262143) HT_ ?_
                            refine pz 18 30 (bs 34 524287) HT_ ?_
                            refine pz 19 31 (bs 34 1048575) HT_ ?_
                            refine pz 20 32 (bs 34 2097151) HT_ ?_
                            refine pz 21 33 (bs 34 4194303) HT_ ?_
                            refine pz 22 34 (bs 34 8388607) HT_ ?_
                            refine pz 23 35 (bs 34 16777215) HT_ ?_
                            refine pz 24 36 (bs 34 33554431) HT_ ?_
                            refine pz 25 37 (bs 34 67108863) HT_ ?_
                            refine pz 26 38 (bs 34 134217727) HT_ ?_
                            refine pz 27 39 (bs 34 268435455) HT_ ?_
                            refine pz 29 41 (bs 34 805306367) HT_ ?_
                            refine tz 28 40 (bs 34 1073741823) HT_ HW_ hHeld ?_
                            refine tz 30 42 (bs 34 2147483647) HT_ HW_ hHeld ?_
                            refine pz 31 43 (bs 34 4294967295) HT_ ?_
                            refine pz 32 44 (bs 34 8589934591) HT_ ?_
                            refine pz 33 45 (bs 34 17179869183) HT_ ?_
                            refine done_ (done_of HT_.out (by kernel_rfl)) ?_
                            try go_wp2
                            go_ret
                            exact ⟨by rfl, bW⟩
                        · rw [if_neg c15] at H
                          exact absurd H (by simp)
                      · rw [if_neg c14] at H
                        exact absurd H (by simp)
                    · rw [if_neg c12] at H
                      have c12b0 : decide (0 < x7_1) = false := decide_eq_false c12
                      clear c12
                      have H' := Aside0.mk H
                      clear H
                      have p768 : 0 ≤ (x7_1 : Int) := odt
                      have q768 : x7_1 < (l0.length : Int) := odt
                      obtain ⟨ad768, e768, hx768_0, hx768_1, hx768_2⟩ := at_T62 HR0.out x7_1 p768 q768
                      (try rw [← Nbq9.out] at hx768_2)
                      cases e768
                      replace hx768_0 := (HB.out.cell (World.block_lt_of_cell? w _ hx768_0)).trans hx768_0
                      replace hx768_1 := (HB.out.cell (World.block_lt_of_cell? w _ hx768_1)).trans hx768_1
                      replace hx768_2 := (HB.out.cell (World.block_lt_of_cell? w _ hx768_2)).trans hx768_2
                      replace p768 := eq_true p768
                      replace q768 := eq_true q768
                      try go_wp2_with (((with_reducible refine gate_dst (N := 4) rfl ?_); refine bE (N := 4) (cs := #[.string (⟨#[]⟩ : ByteArray), .int .i64 0, .bool false]) (t := 62) ?_; intro gb769 hg w27 hbox hb; have n0_ := Aside0.mk (below_step (w := w) bW hb); have n1_ := Aside0.mk (hbox); have n2_ := Aside0.mk (gS (w := w) hg); have n3_ := n2_; clear HB; have HB := n0_; have BK769 := n1_; have GW769 := n2_; have GE769 := n3_; clear n0_ n1_ n2_ n3_; clear hb hbox hg; obtain ⟨hcz28_0, hcz28_1, hcz28_2⟩ := cz3 BK769; obtain ⟨hfz28_0, hfz28_1, hfz28_2⟩ := fz3 BK769))
                      have n0_ : Aside0 ((((w27.setCell ⟨gb769, 0, none⟩ (.string ((rd_T62 l0 x7_1).f0))).setCell ⟨gb769, 1, none⟩ (.int .i64 ((rd_T62 l0 x7_1).f1))).setCell ⟨gb769, 2, none⟩ (.bool true)).heap[gb769]? = some (.cells #[.string ((rd_T62 l0 x7_1).f0), .int .i64 ((rd_T62 l0 x7_1).f1), .bool true] 62 (0, 0))) := ⟨by refine blk_put (cs := #[.string ((rd_T62 l0 x7_1).f0), .int .i64 ((rd_T62 l0 x7_1).f1), .bool false]) ?_ 2 _ rfl; refine blk_put (cs := #[.string ((rd_T62 l0 x7_1).f0), .int .i64 0, .bool false]) ?_ 1 _ rfl; refine blk_put (cs := #[.string (⟨#[]⟩ : ByteArray), .int .i64 0, .bool false]) ?_ 0 _ rfl; exact BK769.out⟩
                      have n1_ : Aside0 (Below w.heap.size w (((w27.setCell ⟨gb769, 0, none⟩ (.string ((rd_T62 l0 x7_1).f0))).setCell ⟨gb769, 1, none⟩ (.int .i64 ((rd_T62 l0 x7_1).f1))).setCell ⟨gb769, 2, none⟩ (.bool true))) := ⟨bW⟩
                      (try clear BK769)
                      (try clear HB)
                      generalize (((w27.setCell ⟨gb769, 0, none⟩ (.string ((rd_T62 l0 x7_1).f0))).setCell ⟨gb769, 1, none⟩ (.int .i64 ((rd_T62 l0 x7_1).f1))).setCell ⟨gb769, 2, none⟩ (.bool true)) = w29 at n0_ n1_ ⊢
                      have BK769 := n0_
                      have HB := n1_
                      clear n0_ n1_
                      have n0_ := Aside0.mk (blk_drew BK769.out)
                      have n1_ := Aside0.mk (below_drew1 HB.out)
                      clear BK769
                      clear HB
                      have BK769 := n0_
                      have HB := n1_
                      clear n0_ n1_
                      refine start_ (n := 34) (S := fun w' => w'.cell? ⟨gb769, 0, none⟩ = some (.string ((rd_T62 l0 x7_1).f0)) ∧ w'.cell? ⟨gb769, 1, none⟩ = some (.int .i64 ((rd_T62 l0 x7_1).f1)) ∧ w'.cell? ⟨gb769, 2, none⟩ = some (.bool true)) (ds := []) (bs 34 0) (by kernel_rfl) rfl rfl ⟨(blk_cell BK769.out 0).trans rfl, (blk_cell BK769.out 1).trans rfl, (blk_cell BK769.out 2).trans rfl⟩ (fun hHeld => ?_); refine with_tabW impl_EditsOK.tab4 impl_EditsOK.bits4 (fun HT_ HW_ => ?_)
                      generalize w29.drew = w30 at BK769 HB hHeld ⊢
                      refine pz 0 12 (bs 34 1) HT_ ?_
                      refine tz 1 13 (bs 34 3) HT_ HW_ hHeld ?_
                      refine one_ (i := 2) (N := some 14) (bs 34 7) rfl rfl (one_of HT_.out (by kernel_rfl)) (by decide) (fun K hK => ?_)
                      refine goes_ Try.func65 (by kernel_rfl) rfl #[.string ((rd_T62 l0 x7_1).f0)] (by rfl) rfl rfl gA ?_
                      with_reducible refine (impl_NameOK.calls ((rd_T62 l0 x7_1).f0) true _ A5.out).mono ?_
                      rintro e w31 ⟨rfl, hb⟩
                      refine ⟨_, rfl, ?_⟩
                      have n0_ := Aside0.mk (kb BK769 hb)
                      have n1_ := Aside0.mk (below_step (w := w) bW hb)
                      clear BK769
                      clear HB
                      have BK769 := n0_
                      have HB := n1_
                      clear n0_ n1_
                      (try clear hb)
                      refine hK.out _ _ ⟨(blk_cell BK769.out 0).trans rfl, (blk_cell BK769.out 1).trans rfl, (blk_cell BK769.out 2).trans rfl⟩ (fun hHeld => ?_)
                      clear hK K
                      refine norm_ (a' := ?_) ?_ ?_
                      rotate_left
                      · show Act.put _ (some 14) _ = _
                        simp only [Act.put, List.setIfInBounds_toArray, List.set_cons_zero, List.set_cons_succ, i64_w, i32_w]
                        rfl
                      refine pz 3 15 (bs 34 15) HT_ ?_
                      refine pz 4 16 (bs 34 31) HT_ ?_
                      refine pz 5 17 (bs 34 63) HT_ ?_
                      refine tz 6 18 (bs 34 127) HT_ HW_ hHeld ?_
                      refine one_ (i := 7) (N := some 19) (bs 34 255) rfl rfl (one_of HT_.out (by kernel_rfl)) (by decide) (fun K hK => ?_)
                      refine goes_ Try.func66 (by kernel_rfl) rfl #[.int .i64 ((rd_T62 l0 x7_1).f1)] (by rfl) rfl rfl gA ?_
                      with_reducible refine (impl_isValue.calls ((rd_T62 l0 x7_1).f1) true _ A7.out).mono ?_
                      rintro e w' ⟨rfl, ⟨nd, rfl⟩⟩
                      refine ⟨_, rfl, ?_⟩
                      refine hK.out _ _ ⟨(blk_cell BK769.out 0).trans rfl, (blk_cell BK769.out 1).trans rfl, (blk_cell BK769.out 2).trans rfl⟩ (fun hHeld => ?_)
                      clear hK K
                      refine norm_ (a' := ?_) ?_ ?_
                      rotate_left
                      · show Act.put _ (some 19) _ = _
                        simp only [Act.put, List.setIfInBounds_toArray, List.set_cons_zero, List.set_cons_succ, i64_w, i32_w]
                        rfl
                      refine pz 8 20 (bs 34 511) HT_ ?_
                      refine pz 9 21 (bs 34 1023) HT_ ?_
                      refine pz 10 22 (bs 34 2047) HT_ ?_
                      refine pz 11 23 (bs 34 4095) HT_ ?_
                      refine tz 12 24 (bs 34 8191) HT_ HW_ hHeld ?_
                      refine pz 13 25 (bs 34 16383) HT_ ?_
                      refine pz 14 26 (bs 34 32767) HT_ ?_
                      refine tz 15 27 (bs 34 65535) HT_ HW_ hHeld ?_
                      refine pz 16 28 (bs 34 131071) HT_ ?_
                      refine pz 17 29 (bs 34 262143) HT_ ?_
                      refine pz 18 30 (bs 34 524287) HT_ ?_
                      refine pz 19 31 (bs 34 1048575) HT_ ?_
                      refine pz 20 32 (bs 34 2097151) HT_ ?_
                      refine pz 21 33 (bs 34 4194303) HT_ ?_
                      refine pz 22 34 (bs 34 8388607) HT_ ?_
                      refine uz 23 35 (bs 34 16777215) HT_ ?_
                      refine uz 24 36 (bs 34 33554431) HT_ ?_
                      refine uz 25 37 (bs 34 67108863) HT_ ?_
                      refine uz 26 38 (bs 34 134217727) HT_ ?_
                      refine uz 27 39 (bs 34 268435455) HT_ ?_
                      refine uz 28 40 (bs 34 536870911) HT_ ?_
                      refine uz 29 41 (bs 34 1073741823) HT_ ?_
                      refine uz 30 42 (bs 34 2147483647) HT_ ?_
                      refine uz 31 43 (bs 34 4294967295) HT_ ?_
                      refine pz 32 44 (bs 34 8589934591) HT_ ?_
                      refine pz 33 45 (bs 34 17179869183) HT_ ?_
                      refine done_ (done_of HT_.out (by kernel_rfl)) ?_
                      try go_wp2
                      go_roundg k1
                      case measure => have := HK1.out; omega
                      case rel => exact ⟨(wrap64 (x7_1 + 1)), vE, H', ⟨by have := HK1.out; omega⟩, ⟨bW⟩⟩
                  · rw [if_neg c11] at H
                    have c11b0 : (((rd_T62 l0 x7_1).f1) == 0) = false := beq_eq_false_iff_ne.mpr c11
                    have c11b1 : (((rd_T62 l0 x7_1).f1) != 0) = true := bne_iff_ne.mpr c11
                    obtain rfl := Option.some.inj H
                    have p768 : 0 ≤ (x7_1 : Int) := odt
                    have q768 : x7_1 < (l0.length : Int) := odt
                    obtain ⟨ad768, e768, hx768_0, hx768_1, hx768_2⟩ := at_T62 HR0.out x7_1 p768 q768
                    (try rw [← Nbq9.out] at hx768_2)
                    cases e768
                    replace hx768_0 := (HB.out.cell (World.block_lt_of_cell? w _ hx768_0)).trans hx768_0
                    replace hx768_1 := (HB.out.cell (World.block_lt_of_cell? w _ hx768_1)).trans hx768_1
                    replace hx768_2 := (HB.out.cell (World.block_lt_of_cell? w _ hx768_2)).trans hx768_2
                    replace p768 := eq_true p768
                    replace q768 := eq_true q768
                    try go_wp2_with (((with_reducible refine gate_dst (N := 4) rfl ?_); refine bE (N := 4) (cs := #[.string (⟨#[]⟩ : ByteArray), .int .i64 0, .bool false]) (t := 62) ?_; intro gb769 hg w32 hbox hb; have n0_ := Aside0.mk (below_step (w := w) bW hb); have n1_ := Aside0.mk (hbox); have n2_ := Aside0.mk (gS (w := w) hg); have n3_ := n2_; clear HB; have HB := n0_; have BK769 := n1_; have GW769 := n2_; have GE769 := n3_; clear n0_ n1_ n2_ n3_; clear hb hbox hg; obtain ⟨hcz33_0, hcz33_1, hcz33_2⟩ := cz3 BK769; obtain ⟨hfz33_0, hfz33_1, hfz33_2⟩ := fz3 BK769))
                    have n0_ : Aside0 ((((w32.setCell ⟨gb769, 0, none⟩ (.string ((rd_T62 l0 x7_1).f0))).setCell ⟨gb769, 1, none⟩ (.int .i64 ((rd_T62 l0 x7_1).f1))).setCell ⟨gb769, 2, none⟩ (.bool true)).heap[gb769]? = some (.cells #[.string ((rd_T62 l0 x7_1).f0), .int .i64 ((rd_T62 l0 x7_1).f1), .bool true] 62 (0, 0))) := ⟨by refine blk_put (cs := #[.string ((rd_T62 l0 x7_1).f0), .int .i64 ((rd_T62 l0 x7_1).f1), .bool false]) ?_ 2 _ rfl; refine blk_put (cs := #[.string ((rd_T62 l0 x7_1).f0), .int .i64 0, .bool false]) ?_ 1 _ rfl; refine blk_put (cs := #[.string (⟨#[]⟩ : ByteArray), .int .i64 0, .bool false]) ?_ 0 _ rfl; exact BK769.out⟩
                    have n1_ : Aside0 (Below w.heap.size w (((w32.setCell ⟨gb769, 0, none⟩ (.string ((rd_T62 l0 x7_1).f0))).setCell ⟨gb769, 1, none⟩ (.int .i64 ((rd_T62 l0 x7_1).f1))).setCell ⟨gb769, 2, none⟩ (.bool true))) := ⟨bW⟩
                    (try clear BK769)
                    (try clear HB)
                    generalize (((w32.setCell ⟨gb769, 0, none⟩ (.string ((rd_T62 l0 x7_1).f0))).setCell ⟨gb769, 1, none⟩ (.int .i64 ((rd_T62 l0 x7_1).f1))).setCell ⟨gb769, 2, none⟩ (.bool true)) = w34 at n0_ n1_ ⊢
                    have BK769 := n0_
                    have HB := n1_
                    clear n0_ n1_
                    have n0_ := Aside0.mk (blk_drew BK769.out)
                    have n1_ := Aside0.mk (below_drew1 HB.out)
                    clear BK769
                    clear HB
                    have BK769 := n0_
                    have HB := n1_
                    clear n0_ n1_
                    refine start_ (n := 34) (S := fun w' => w'.cell? ⟨gb769, 0, none⟩ = some (.string ((rd_T62 l0 x7_1).f0)) ∧ w'.cell? ⟨gb769, 1, none⟩ = some (.int .i64 ((rd_T62 l0 x7_1).f1)) ∧ w'.cell? ⟨gb769, 2, none⟩ = some (.bool true)) (ds := []) (bs 34 0) (by kernel_rfl) rfl rfl ⟨(blk_cell BK769.out 0).trans rfl, (blk_cell BK769.out 1).trans rfl, (blk_cell BK769.out 2).trans rfl⟩ (fun hHeld => ?_); refine with_tabW impl_EditsOK.tab4 impl_EditsOK.bits4 (fun HT_ HW_ => ?_)
                    generalize w34.drew = w35 at BK769 HB hHeld ⊢
                    refine pz 0 12 (bs 34 1) HT_ ?_
                    refine tz 1 13 (bs 34 3) HT_ HW_ hHeld ?_
                    refine one_ (i := 2) (N := some 14) (bs 34 7) rfl rfl (one_of HT_.out (by kernel_rfl)) (by decide) (fun K hK => ?_)
                    refine goes_ Try.func65 (by kernel_rfl) rfl #[.string ((rd_T62 l0 x7_1).f0)] (by rfl) rfl rfl gA ?_
                    with_reducible refine (impl_NameOK.calls ((rd_T62 l0 x7_1).f0) true _ A5.out).mono ?_
                    rintro e w36 ⟨rfl, hb⟩
                    refine ⟨_, rfl, ?_⟩
                    have n0_ := Aside0.mk (kb BK769 hb)
                    have n1_ := Aside0.mk (below_step (w := w) bW hb)
                    clear BK769
                    clear HB
                    have BK769 := n0_
                    have HB := n1_
                    clear n0_ n1_
                    (try clear hb)
                    refine hK.out _ _ ⟨(blk_cell BK769.out 0).trans rfl, (blk_cell BK769.out 1).trans rfl, (blk_cell BK769.out 2).trans rfl⟩ (fun hHeld => ?_)
                    clear hK K
                    refine norm_ (a' := ?_) ?_ ?_
                    rotate_left
                    · show Act.put _ (some 14) _ = _
                      simp only [Act.put, List.setIfInBounds_toArray, List.set_cons_zero, List.set_cons_succ, i64_w, i32_w]
                      rfl
                    refine pz 3 15 (bs 34 15) HT_ ?_
                    refine pz 4 16 (bs 34 31) HT_ ?_
                    refine pz 5 17 (bs 34 63) HT_ ?_
                    refine tz 6 18 (bs 34 127) HT_ HW_ hHeld ?_
                    refine one_ (i := 7) (N := some 19) (bs 34 255) rfl rfl (one_of HT_.out (by kernel_rfl)) (by decide) (fun K hK => ?_)
                    refine goes_ Try.func66 (by kernel_rfl) rfl #[.int .i64 ((rd_T62 l0 x7_1).f1)] (by rfl) rfl rfl gA ?_
                    with_reducible refine (impl_isValue.calls ((rd_T62 l0 x7_1).f1) true _ A7.out).mono ?_
                    rintro e w' ⟨rfl, ⟨nd, rfl⟩⟩
                    refine ⟨_, rfl, ?_⟩
                    refine hK.out _ _ ⟨(blk_cell BK769.out 0).trans rfl, (blk_cell BK769.out 1).trans rfl, (blk_cell BK769.out 2).trans rfl⟩ (fun hHeld => ?_)
                    clear hK K
                    refine norm_ (a' := ?_) ?_ ?_
                    rotate_left
                    · show Act.put _ (some 19) _ = _
                      simp only [Act.put, List.setIfInBounds_toArray, List.set_cons_zero, List.set_cons_succ, i64_w, i32_w]
                      rfl
                    refine pz 8 20 (bs 34 511) HT_ ?_
                    refine pz 9 21 (bs 34 1023) HT_ ?_
                    refine pz 10 22 (bs 34 2047) HT_ ?_
                    refine pz 11 23 (bs 34 4095) HT_ ?_
                    refine tz 12 24 (bs 34 8191) HT_ HW_ hHeld ?_
                    refine pz 13 25 (bs 34 16383) HT_ ?_
                    refine pz 14 26 (bs 34 32767) HT_ ?_
                    refine tz 15 27 (bs 34 65535) HT_ HW_ hHeld ?_
                    refine pz 16 28 (bs 34 131071) HT_ ?_
                    refine pz 17 29 (bs 34 262143) HT_ ?_
                    refine pz 18 30 (bs 34 524287) HT_ ?_
                    refine pz 19 31 (bs 34 1048575) HT_ ?_
                    refine uz 20 32 (bs 34 2097151) HT_ ?_
                    refine uz 21 33 (bs 34 4194303) HT_ ?_
                    refine uz 22 34 (bs 34 8388607) HT_ ?_
                    refine uz 23 35 (bs 34 16777215) HT_ ?_
                    refine uz 24 36 (bs 34 33554431) HT_ ?_
                    refine uz 25 37 (bs 34 67108863) HT_ ?_
                    refine uz 26 38 (bs 34 134217727) HT_ ?_
                    refine uz 27 39 (bs 34 268435455) HT_ ?_
                    refine uz 28 40 (bs 34 536870911) HT_ ?_
                    refine uz 29 41 (bs 34 1073741823) HT_ ?_
                    refine uz 30 42 (bs 34 2147483647) HT_ ?_
                    refine uz 31 43 (bs 34 4294967295) HT_ ?_
                    refine uz 32 44 (bs 34 8589934591) HT_ ?_
                    refine pz 33 45 (bs 34 17179869183) HT_ ?_
                    refine done_ (done_of HT_.out (by kernel_rfl)) ?_
                    try go_wp2
                    go_ret
                    exact ⟨rE, bW⟩
                · replace c10 := Bool.eq_false_iff.mpr c10
                  subst c10
                  have H1 : (if x7_1 > 0 then (if 0 ≤ (wrap64 (x7_1 - 1)) then (if (wrap64 (x7_1 - 1)) < (l0.length : Int) then (if ((Op.bytesLess (((rd_T62 l0 (wrap64 (x7_1 - 1))).f0).toList) (((rd_T62 l0 x7_1).f0).toList)) = true) then (impl_EditsOK.l0 k1 l0 l0 (l0.length : Int) (wrap64 (x7_1 + 1))) else (some false)) else (none)) else (none)) else (impl_EditsOK.l0 k1 l0 l0 (l0.length : Int) (wrap64 (x7_1 + 1)))) = some r := by rw [if_neg (show ¬ (false = true) by decide)] at H; exact H
                  clear H
                  have H := H1
                  clear H1
                  by_cases c37 : x7_1 > 0
                  · rw [if_pos c37] at H
                    have c37b0 : decide (0 < x7_1) = true := decide_eq_true c37
                    clear c37
                    obtain ⟨ji38, hji38⟩ : ∃ j_ : Int, (wrap64 (x7_1 - 1)) = j_ := ⟨_, rfl⟩
                    replace H : (if 0 ≤ (ji38) then (if (ji38) < (l0.length : Int) then (if ((Op.bytesLess (((rd_T62 l0 (ji38)).f0).toList) (((rd_T62 l0 x7_1).f0).toList)) = true) then (impl_EditsOK.l0 k1 l0 l0 (l0.length : Int) (wrap64 (x7_1 + 1))) else (some false)) else (none)) else (none)) = some r := by (rw [hji38] at H; exact H)
                    have hji38w : (IntKind.i64.wrap (x7_1 - 1)) = ji38 := (i64_w _).trans hji38
                    by_cases c39 : 0 ≤ (ji38)
                    · rw [if_pos c39] at H
                      have c39b0 : decide (0 ≤ (ji38)) = true := decide_eq_true c39
                      clear c39
                      by_cases c40 : (ji38) < (l0.length : Int)
                      · rw [if_pos c40] at H
                        have c40b0 : decide ((ji38) < (l0.length : Int)) = true := decide_eq_true c40
                        clear c40
                        by_cases c41 : ((Op.bytesLess (((rd_T62 l0 (ji38)).f0).toList) (((rd_T62 l0 x7_1).f0).toList)) = true)
                        · rw [if_pos c41] at H
                          have c41b0 : (Op.bytesLess (((rd_T62 l0 (ji38)).f0).toList) (((rd_T62 l0 x7_1).f0).toList)) = true := c41
                          clear c41
                          have H' := Aside0.mk H
                          clear H
                          have p768 : 0 ≤ (x7_1 : Int) := odt
                          have q768 : x7_1 < (l0.length : Int) := odt
                          obtain ⟨ad768, e768, hx768_0, hx768_1, hx768_2⟩ := at_T62 HR0.out x7_1 p768 q768
                          (try rw [← Nbq9.out] at hx768_2)
                          cases e768
                          replace hx768_0 := (HB.out.cell (World.block_lt_of_cell? w _ hx768_0)).trans hx768_0
                          replace hx768_1 := (HB.out.cell (World.block_lt_of_cell? w _ hx768_1)).trans hx768_1
                          replace hx768_2 := (HB.out.cell (World.block_lt_of_cell? w _ hx768_2)).trans hx768_2
                          replace p768 := eq_true p768
                          replace q768 := eq_true q768
                          try go_wp2_with (((with_reducible refine gate_dst (N := 4) rfl ?_); refine bE (N := 4) (cs := #[.string (⟨#[]⟩ : ByteArray), .int .i64 0, .bool false]) (t := 62) ?_; intro gb769 hg w42 hbox hb; have n0_ := Aside0.mk (below_step (w := w) bW hb); have n1_ := Aside0.mk (hbox); have n2_ := Aside0.mk (gS (w := w) hg); have n3_ := n2_; clear HB; have HB := n0_; have BK769 := n1_; have GW769 := n2_; have GE769 := n3_; clear n0_ n1_ n2_ n3_; clear hb hbox hg; obtain ⟨hcz43_0, hcz43_1, hcz43_2⟩ := cz3 BK769; obtain ⟨hfz43_0, hfz43_1, hfz43_2⟩ := fz3 BK769))
                          have n0_ : Aside0 ((((w42.setCell ⟨gb769, 0, none⟩ (.string ((rd_T62 l0 x7_1).f0))).setCell ⟨gb769, 1, none⟩ (.int .i64 ((rd_T62 l0 x7_1).f1))).setCell ⟨gb769, 2, none⟩ (.bool false)).heap[gb769]? = some (.cells #[.string ((rd_T62 l0 x7_1).f0), .int .i64 ((rd_T62 l0 x7_1).f1), .bool false] 62 (0, 0))) := ⟨by refine blk_put (cs := #[.string ((rd_T62 l0 x7_1).f0), .int .i64 ((rd_T62 l0 x7_1).f1), .bool false]) ?_ 2 _ rfl; refine blk_put (cs := #[.string ((rd_T62 l0 x7_1).f0), .int .i64 0, .bool false]) ?_ 1 _ rfl; refine blk_put (cs := #[.string (⟨#[]⟩ : ByteArray), .int .i64 0, .bool false]) ?_ 0 _ rfl; exact BK769.out⟩
                          have n1_ : Aside0 (Below w.heap.size w (((w42.setCell ⟨gb769, 0, none⟩ (.string ((rd_T62 l0 x7_1).f0))).setCell ⟨gb769, 1, none⟩ (.int .i64 ((rd_T62 l0 x7_1).f1))).setCell ⟨gb769, 2, none⟩ (.bool false))) := ⟨bW⟩
                          (try clear BK769)
                          (try clear HB)
                          generalize (((w42.setCell ⟨gb769, 0, none⟩ (.string ((rd_T62 l0 x7_1).f0))).setCell ⟨gb769, 1, none⟩ (.int .i64 ((rd_T62 l0 x7_1).f1))).setCell ⟨gb769, 2, none⟩ (.bool false)) = w44 at n0_ n1_ ⊢
                          have BK769 := n0_
                          have HB := n1_
                          clear n0_ n1_
                          have n0_ := Aside0.mk (blk_drew BK769.out)
                          have n1_ := Aside0.mk (below_drew1 HB.out)
                          clear BK769
                          clear HB
                          have BK769 := n0_
                          have HB := n1_
                          clear n0_ n1_
                          have p773 : 0 ≤ ((ji38) : Int) := odt
                          have q773 : (ji38) < (l0.length : Int) := odt
                          obtain ⟨ad773, e773, hx773_0, hx773_1, hx773_2⟩ := at_T62 HR0.out (ji38) p773 q773
                          have hw773_2 := hx773_2
                          have hw773_1 := hx773_1
                          have hw773_0 := hx773_0
                          obtain rfl : ad768 = ad773 := (by injection e773)
                          replace hx773_0 := (HB.out.cell (World.block_lt_of_cell? w _ hx773_0)).trans hx773_0
                          replace hx773_1 := (HB.out.cell (World.block_lt_of_cell? w _ hx773_1)).trans hx773_1
                          replace hx773_2 := (HB.out.cell (World.block_lt_of_cell? w _ hx773_2)).trans hx773_2
                          replace p773 := eq_true p773
                          replace q773 := eq_true q773
                          refine start_ (n := 34) (S := fun w' => w'.cell? ⟨gb769, 0, none⟩ = some (.string ((rd_T62 l0 x7_1).f0)) ∧ w'.cell? ⟨gb769, 1, none⟩ = some (.int .i64 ((rd_T62 l0 x7_1).f1)) ∧ w'.cell? ⟨gb769, 2, none⟩ = some (.bool false) ∧ w'.cell? (ad768.add (((ji38)).toNat * 3)) = some (.string ((rd_T62 l0 (ji38)).f0)) ∧ w'.cell? ⟨(ad768.add (((ji38)).toNat * 3)).block, (ad768.add (((ji38)).toNat * 3)).off + 1, none⟩ = some (.int .i64 ((rd_T62 l0 (ji38)).f1)) ∧ w'.cell? ⟨(ad768.add (((ji38)).toNat * 3)).block, (ad768.add (((ji38)).toNat * 3)).off + 2, none⟩ = some (.bool ((rd_T62 l0 (ji38)).f2))) (ds := []) (bs 34 0) (by kernel_rfl) rfl rfl ⟨(blk_cell BK769.out 0).trans rfl, (blk_cell BK769.out 1).trans rfl, (blk_cell BK769.out 2).trans rfl, ((HB.out.cell (World.block_lt_of_cell? w _ hw773_0)).trans hw773_0), ((HB.out.cell (World.block_lt_of_cell? w _ hw773_1)).trans hw773_1), ((HB.out.cell (World.block_lt_of_cell? w _ hw773_2)).trans hw773_2)⟩ (fun hHeld => ?_); refine with_tabW impl_EditsOK.tab4 impl_EditsOK.bits4 (fun HT_ HW_ => ?_)
                          generalize w44.drew = w45 at BK769 HB hx773_0 hx773_1 hx773_2 hHeld ⊢
                          refine pz 0 12 (bs 34 1) HT_ ?_
                          refine tz 1 13 (bs 34 3) HT_ HW_ hHeld ?_
                          refine one_ (i := 2) (N := some 14) (bs 34 7) rfl rfl (one_of HT_.out (by kernel_rfl)) (by decide) (fun K hK => ?_)
                          refine goes_ Try.func65 (by kernel_rfl) rfl #[.string ((rd_T62 l0 x7_1).f0)] (by rfl) rfl rfl gA ?_
                          with_reducible refine (impl_NameOK.calls ((rd_T62 l0 x7_1).f0) true _ A5.out).mono ?_
                          rintro e w46 ⟨rfl, hb⟩
                          refine ⟨_, rfl, ?_⟩
                          have n0_ := Aside0.mk (kb BK769 hb)
                          have n1_ := Aside0.mk (below_step (w := w) bW hb)
                          clear BK769
                          clear HB
                          have BK769 := n0_
                          have HB := n1_
                          clear n0_ n1_
                          (try clear hb)
                          refine hK.out _ _ ⟨(blk_cell BK769.out 0).trans rfl, (blk_cell BK769.out 1).trans rfl, (blk_cell BK769.out 2).trans rfl, ((HB.out.cell (World.block_lt_of_cell? w _ hw773_0)).trans hw773_0), ((HB.out.cell (World.block_lt_of_cell? w _ hw773_1)).trans hw773_1), ((HB.out.cell (World.block_lt_of_cell? w _ hw773_2)).trans hw773_2)⟩ (fun hHeld => ?_)
                          clear hK K
                          refine norm_ (a' := ?_) ?_ ?_
                          rotate_left
                          · show Act.put _ (some 14) _ = _
                            simp only [Act.put, List.setIfInBounds_toArray, List.set_cons_zero, List.set_cons_succ, i64_w, i32_w]
                            rfl
                          refine pz 3 15 (bs 34 15) HT_ ?_
                          refine pz 4 16 (bs 34 31) HT_ ?_
                          refine pz 5 17 (bs 34 63) HT_ ?_
                          refine tz 6 18 (bs 34 127) HT_ HW_ hHeld ?_
                          refine one_ (i := 7) (N := some 19) (bs 34 255) rfl rfl (one_of HT_.out (by kernel_rfl)) (by decide) (fun K hK => ?_)
                          refine goes_ Try.func66 (by kernel_rfl) rfl #[.int .i64 ((rd_T62 l0 x7_1).f1)] (by rfl) rfl rfl gA ?_
                          with_reducible refine (impl_isValue.calls ((rd_T62 l0 x7_1).f1) true _ A7.out).mono ?_
                          rintro e w' ⟨rfl, ⟨nd, rfl⟩⟩
                          refine ⟨_, rfl, ?_⟩
                          refine hK.out _ _ ⟨(blk_cell BK769.out 0).trans rfl, (blk_cell BK769.out 1).trans rfl, (blk_cell BK769.out 2).trans rfl, ((HB.out.cell (World.block_lt_of_cell? w _ hw773_0)).trans hw773_0), ((HB.out.cell (World.block_lt_of_cell? w _ hw773_1)).trans hw773_1), ((HB.out.cell (World.block_lt_of_cell? w _ hw773_2)).trans hw773_2)⟩ (fun hHeld => ?_)
                          clear hK K
                          refine norm_ (a' := ?_) ?_ ?_
                          rotate_left
                          · show Act.put _ (some 19) _ = _
                            simp only [Act.put, List.setIfInBounds_toArray, List.set_cons_zero, List.set_cons_succ, i64_w, i32_w]
                            rfl
                          refine pz 8 20 (bs 34 511) HT_ ?_
                          refine pz 9 21 (bs 34 1023) HT_ ?_
                          refine pz 10 22 (bs 34 2047) HT_ ?_
                          refine pz 11 23 (bs 34 4095) HT_ ?_
                          refine tz 12 24 (bs 34 8191) HT_ HW_ hHeld ?_
                          refine pz 13 25 (bs 34 16383) HT_ ?_
                          refine uz 14 26 (bs 34 32767) HT_ ?_
                          refine uz 15 27 (bs 34 65535) HT_ ?_
                          refine uz 16 28 (bs 34 131071) HT_ ?_
                          refine pz 17 29 (bs 34 262143) HT_ ?_
                          refine pz 18 30 (bs 34 524287) HT_ ?_
                          refine pz 19 31 (bs 34 1048575) HT_ ?_
                          refine pz 20 32 (bs 34 2097151) HT_ ?_
                          refine pz 21 33 (bs 34 4194303) HT_ ?_
                          refine pz 22 34 (bs 34 8388607) HT_ ?_
                          refine pz 23 35 (bs 34 16777215) HT_ ?_
                          refine pz 24 36 (bs 34 33554431) HT_ ?_
                          refine pz 25 37 (bs 34 67108863) HT_ ?_
                          refine pz 26 38 (bs 34 134217727) HT_ ?_
                          refine pz 27 39 (bs 34 268435455) HT_ ?_
                          refine pz 29 41 (bs 34 805306367) HT_ ?_
                          refine tz 28 40 (bs 34 1073741823) HT_ HW_ hHeld ?_
                          refine tz 30 42 (bs 34 2147483647) HT_ HW_ hHeld ?_
                          refine pz 31 43 (bs 34 4294967295) HT_ ?_
                          refine pz 32 44 (bs 34 8589934591) HT_ ?_
                          refine pz 33 45 (bs 34 17179869183) HT_ ?_
                          refine done_ (done_of HT_.out (by kernel_rfl)) ?_
                          try go_wp2
                          go_roundg k1
                          case measure => have := HK1.out; omega
                          case rel => exact ⟨(wrap64 (x7_1 + 1)), vE, H', ⟨by have := HK1.out; omega⟩, ⟨bW⟩⟩
                        · rw [if_neg c41] at H
                          have c41b0 : (Op.bytesLess (((rd_T62 l0 (ji38)).f0).toList) (((rd_T62 l0 x7_1).f0).toList)) = false := by simpa using c41
                          clear c41
                          obtain rfl := Option.some.inj H
                          have p768 : 0 ≤ (x7_1 : Int) := odt
                          have q768 : x7_1 < (l0.length : Int) := odt
                          obtain ⟨ad768, e768, hx768_0, hx768_1, hx768_2⟩ := at_T62 HR0.out x7_1 p768 q768
                          (try rw [← Nbq9.out] at hx768_2)
                          cases e768
                          replace hx768_0 := (HB.out.cell (World.block_lt_of_cell? w _ hx768_0)).trans hx768_0
                          replace hx768_1 := (HB.out.cell (World.block_lt_of_cell? w _ hx768_1)).trans hx768_1
                          replace hx768_2 := (HB.out.cell (World.block_lt_of_cell? w _ hx768_2)).trans hx768_2
                          replace p768 := eq_true p768
                          replace q768 := eq_true q768
                          try go_wp2_with (((with_reducible refine gate_dst (N := 4) rfl ?_); refine bE (N := 4) (cs := #[.string (⟨#[]⟩ : ByteArray), .int .i64 0, .bool false]) (t := 62) ?_; intro gb769 hg w47 hbox hb; have n0_ := Aside0.mk (below_step (w := w) bW hb); have n1_ := Aside0.mk (hbox); have n2_ := Aside0.mk (gS (w := w) hg); have n3_ := n2_; clear HB; have HB := n0_; have BK769 := n1_; have GW769 := n2_; have GE769 := n3_; clear n0_ n1_ n2_ n3_; clear hb hbox hg; obtain ⟨hcz48_0, hcz48_1, hcz48_2⟩ := cz3 BK769; obtain ⟨hfz48_0, hfz48_1, hfz48_2⟩ := fz3 BK769))
                          have n0_ : Aside0 ((((w47.setCell ⟨gb769, 0, none⟩ (.string ((rd_T62 l0 x7_1).f0))).setCell ⟨gb769, 1, none⟩ (.int .i64 ((rd_T62 l0 x7_1).f1))).setCell ⟨gb769, 2, none⟩ (.bool false)).heap[gb769]? = some (.cells #[.string ((rd_T62 l0 x7_1).f0), .int .i64 ((rd_T62 l0 x7_1).f1), .bool false] 62 (0, 0))) := ⟨by refine blk_put (cs := #[.string ((rd_T62 l0 x7_1).f0), .int .i64 ((rd_T62 l0 x7_1).f1), .bool false]) ?_ 2 _ rfl; refine blk_put (cs := #[.string ((rd_T62 l0 x7_1).f0), .int .i64 0, .bool false]) ?_ 1 _ rfl; refine blk_put (cs := #[.string (⟨#[]⟩ : ByteArray), .int .i64 0, .bool false]) ?_ 0 _ rfl; exact BK769.out⟩
                          have n1_ : Aside0 (Below w.heap.size w (((w47.setCell ⟨gb769, 0, none⟩ (.string ((rd_T62 l0 x7_1).f0))).setCell ⟨gb769, 1, none⟩ (.int .i64 ((rd_T62 l0 x7_1).f1))).setCell ⟨gb769, 2, none⟩ (.bool false))) := ⟨bW⟩
                          (try clear BK769)
                          (try clear HB)
                          generalize (((w47.setCell ⟨gb769, 0, none⟩ (.string ((rd_T62 l0 x7_1).f0))).setCell ⟨gb769, 1, none⟩ (.int .i64 ((rd_T62 l0 x7_1).f1))).setCell ⟨gb769, 2, none⟩ (.bool false)) = w49 at n0_ n1_ ⊢
                          have BK769 := n0_
                          have HB := n1_
                          clear n0_ n1_
                          have n0_ := Aside0.mk (blk_drew BK769.out)
                          have n1_ := Aside0.mk (below_drew1 HB.out)
                          clear BK769
                          clear HB
                          have BK769 := n0_
                          have HB := n1_
                          clear n0_ n1_
                          have p773 : 0 ≤ ((ji38) : Int) := odt
                          have q773 : (ji38) < (l0.length : Int) := odt
                          obtain ⟨ad773, e773, hx773_0, hx773_1, hx773_2⟩ := at_T62 HR0.out (ji38) p773 q773
                          have hw773_2 := hx773_2
                          have hw773_1 := hx773_1
                          have hw773_0 := hx773_0
                          obtain rfl : ad768 = ad773 := (by injection e773)
                          replace hx773_0 := (HB.out.cell (World.block_lt_of_cell? w _ hx773_0)).trans hx773_0
                          replace hx773_1 := (HB.out.cell (World.block_lt_of_cell? w _ hx773_1)).trans hx773_1
                          replace hx773_2 := (HB.out.cell (World.block_lt_of_cell? w _ hx773_2)).trans hx773_2
                          replace p773 := eq_true p773
                          replace q773 := eq_true q773
                          refine start_ (n := 34) (S := fun w' => w'.cell? ⟨gb769, 0, none⟩ = some (.string ((rd_T62 l0 x7_1).f0)) ∧ w'.cell? ⟨gb769, 1, none⟩ = some (.int .i64 ((rd_T62 l0 x7_1).f1)) ∧ w'.cell? ⟨gb769, 2, none⟩ = some (.bool false) ∧ w'.cell? (ad768.add (((ji38)).toNat * 3)) = some (.string ((rd_T62 l0 (ji38)).f0)) ∧ w'.cell? ⟨(ad768.add (((ji38)).toNat * 3)).block, (ad768.add (((ji38)).toNat * 3)).off + 1, none⟩ = some (.int .i64 ((rd_T62 l0 (ji38)).f1)) ∧ w'.cell? ⟨(ad768.add (((ji38)).toNat * 3)).block, (ad768.add (((ji38)).toNat * 3)).off + 2, none⟩ = some (.bool ((rd_T62 l0 (ji38)).f2))) (ds := []) (bs 34 0) (by kernel_rfl) rfl rfl ⟨(blk_cell BK769.out 0).trans rfl, (blk_cell BK769.out 1).trans rfl, (blk_cell BK769.out 2).trans rfl, ((HB.out.cell (World.block_lt_of_cell? w _ hw773_0)).trans hw773_0), ((HB.out.cell (World.block_lt_of_cell? w _ hw773_1)).trans hw773_1), ((HB.out.cell (World.block_lt_of_cell? w _ hw773_2)).trans hw773_2)⟩ (fun hHeld => ?_); refine with_tabW impl_EditsOK.tab4 impl_EditsOK.bits4 (fun HT_ HW_ => ?_)
                          generalize w49.drew = w50 at BK769 HB hx773_0 hx773_1 hx773_2 hHeld ⊢
                          refine pz 0 12 (bs 34 1) HT_ ?_
                          refine tz 1 13 (bs 34 3) HT_ HW_ hHeld ?_
                          refine one_ (i := 2) (N := some 14) (bs 34 7) rfl rfl (one_of HT_.out (by kernel_rfl)) (by decide) (fun K hK => ?_)
                          refine goes_ Try.func65 (by kernel_rfl) rfl #[.string ((rd_T62 l0 x7_1).f0)] (by rfl) rfl rfl gA ?_
                          with_reducible refine (impl_NameOK.calls ((rd_T62 l0 x7_1).f0) true _ A5.out).mono ?_
                          rintro e w51 ⟨rfl, hb⟩
                          refine ⟨_, rfl, ?_⟩
                          have n0_ := Aside0.mk (kb BK769 hb)
                          have n1_ := Aside0.mk (below_step (w := w) bW hb)
                          clear BK769
                          clear HB
                          have BK769 := n0_
                          have HB := n1_
                          clear n0_ n1_
                          (try clear hb)
                          refine hK.out _ _ ⟨(blk_cell BK769.out 0).trans rfl, (blk_cell BK769.out 1).trans rfl, (blk_cell BK769.out 2).trans rfl, ((HB.out.cell (World.block_lt_of_cell? w _ hw773_0)).trans hw773_0), ((HB.out.cell (World.block_lt_of_cell? w _ hw773_1)).trans hw773_1), ((HB.out.cell (World.block_lt_of_cell? w _ hw773_2)).trans hw773_2)⟩ (fun hHeld => ?_)
                          clear hK K
                          refine norm_ (a' := ?_) ?_ ?_
                          rotate_left
                          · show Act.put _ (some 14) _ = _
                            simp only [Act.put, List.setIfInBounds_toArray, List.set_cons_zero, List.set_cons_succ, i64_w, i32_w]
                            rfl
                          refine pz 3 15 (bs 34 15) HT_ ?_
                          refine pz 4 16 (bs 34 31) HT_ ?_
                          refine pz 5 17 (bs 34 63) HT_ ?_
                          refine tz 6 18 (bs 34 127) HT_ HW_ hHeld ?_
                          refine one_ (i := 7) (N := some 19) (bs 34 255) rfl rfl (one_of HT_.out (by kernel_rfl)) (by decide) (fun K hK => ?_)
                          refine goes_ Try.func66 (by kernel_rfl) rfl #[.int .i64 ((rd_T62 l0 x7_1).f1)] (by rfl) rfl rfl gA ?_
                          with_reducible refine (impl_isValue.calls ((rd_T62 l0 x7_1).f1) true _ A7.out).mono ?_
                          rintro e w' ⟨rfl, ⟨nd, rfl⟩⟩
                          refine ⟨_, rfl, ?_⟩
                          refine hK.out _ _ ⟨(blk_cell BK769.out 0).trans rfl, (blk_cell BK769.out 1).trans rfl, (blk_cell BK769.out 2).trans rfl, ((HB.out.cell (World.block_lt_of_cell? w _ hw773_0)).trans hw773_0), ((HB.out.cell (World.block_lt_of_cell? w _ hw773_1)).trans hw773_1), ((HB.out.cell (World.block_lt_of_cell? w _ hw773_2)).trans hw773_2)⟩ (fun hHeld => ?_)
                          clear hK K
                          refine norm_ (a' := ?_) ?_ ?_
                          rotate_left
                          · show Act.put _ (some 19) _ = _
                            simp only [Act.put, List.setIfInBounds_toArray, List.set_cons_zero, List.set_cons_succ, i64_w, i32_w]
                            rfl
                          refine pz 8 20 (bs 34 511) HT_ ?_
                          refine pz 9 21 (bs 34 1023) HT_ ?_
                          refine pz 10 22 (bs 34 2047) HT_ ?_
                          refine pz 11 23 (bs 34 4095) HT_ ?_
                          refine tz 12 24 (bs 34 8191) HT_ HW_ hHeld ?_
                          refine pz 13 25 (bs 34 16383) HT_ ?_
                          refine uz 14 26 (bs 34 32767) HT_ ?_
                          refine uz 15 27 (bs 34 65535) HT_ ?_
                          refine uz 16 28 (bs 34 131071) HT_ ?_
                          refine pz 17 29 (bs 34 262143) HT_ ?_
                          refine pz 18 30 (bs 34 524287) HT_ ?_
                          refine pz 19 31 (bs 34 1048575) HT_ ?_
                          refine pz 20 32 (bs 34 2097151) HT_ ?_
                          refine pz 21 33 (bs 34 4194303) HT_ ?_
                          refine pz 22 34 (bs 34 8388607) HT_ ?_
                          refine pz 23 35 (bs 34 16777215) HT_ ?_
                          refine pz 24 36 (bs 34 33554431) HT_ ?_
                          refine pz 25 37 (bs 34 67108863) HT_ ?_
                          refine pz 26 38 (bs 34 134217727) HT_ ?_
                          refine pz 27 39 (bs 34 268435455) HT_ ?_
                          refine pz 29 41 (bs 34 805306367) HT_ ?_
                          refine tz 28 40 (bs 34 1073741823) HT_ HW_ hHeld ?_
                          refine tz 30 42 (bs 34 2147483647) HT_ HW_ hHeld ?_
                          refine pz 31 43 (bs 34 4294967295) HT_ ?_
                          refine pz 32 44 (bs 34 8589934591) HT_ ?_
                          refine pz 33 45 (bs 34 17179869183) HT_ ?_
                          refine done_ (done_of HT_.out (by kernel_rfl)) ?_
                          try go_wp2
                          go_ret
                          exact ⟨by rfl, bW⟩
                      · rw [if_neg c40] at H
                        exact absurd H (by simp)
                    · rw [if_neg c39] at H
                      exact absurd H (by simp)
                  · rw [if_neg c37] at H
                    have c37b0 : decide (0 < x7_1) = false := decide_eq_false c37
                    clear c37
                    have H' := Aside0.mk H
                    clear H
                    have p768 : 0 ≤ (x7_1 : Int) := odt
                    have q768 : x7_1 < (l0.length : Int) := odt
                    obtain ⟨ad768, e768, hx768_0, hx768_1, hx768_2⟩ := at_T62 HR0.out x7_1 p768 q768
                    (try rw [← Nbq9.out] at hx768_2)
                    cases e768
                    replace hx768_0 := (HB.out.cell (World.block_lt_of_cell? w _ hx768_0)).trans hx768_0
                    replace hx768_1 := (HB.out.cell (World.block_lt_of_cell? w _ hx768_1)).trans hx768_1
                    replace hx768_2 := (HB.out.cell (World.block_lt_of_cell? w _ hx768_2)).trans hx768_2
                    replace p768 := eq_true p768
                    replace q768 := eq_true q768
                    try go_wp2_with (((with_reducible refine gate_dst (N := 4) rfl ?_); refine bE (N := 4) (cs := #[.string (⟨#[]⟩ : ByteArray), .int .i64 0, .bool false]) (t := 62) ?_; intro gb769 hg w52 hbox hb; have n0_ := Aside0.mk (below_step (w := w) bW hb); have n1_ := Aside0.mk (hbox); have n2_ := Aside0.mk (gS (w := w) hg); have n3_ := n2_; clear HB; have HB := n0_; have BK769 := n1_; have GW769 := n2_; have GE769 := n3_; clear n0_ n1_ n2_ n3_; clear hb hbox hg; obtain ⟨hcz53_0, hcz53_1, hcz53_2⟩ := cz3 BK769; obtain ⟨hfz53_0, hfz53_1, hfz53_2⟩ := fz3 BK769))
                    have n0_ : Aside0 ((((w52.setCell ⟨gb769, 0, none⟩ (.string ((rd_T62 l0 x7_1).f0))).setCell ⟨gb769, 1, none⟩ (.int .i64 ((rd_T62 l0 x7_1).f1))).setCell ⟨gb769, 2, none⟩ (.bool false)).heap[gb769]? = some (.cells #[.string ((rd_T62 l0 x7_1).f0), .int .i64 ((rd_T62 l0 x7_1).f1), .bool false] 62 (0, 0))) := ⟨by refine blk_put (cs := #[.string ((rd_T62 l0 x7_1).f0), .int .i64 ((rd_T62 l0 x7_1).f1), .bool false]) ?_ 2 _ rfl; refine blk_put (cs := #[.string ((rd_T62 l0 x7_1).f0), .int .i64 0, .bool false]) ?_ 1 _ rfl; refine blk_put (cs := #[.string (⟨#[]⟩ : ByteArray), .int .i64 0, .bool false]) ?_ 0 _ rfl; exact BK769.out⟩
                    have n1_ : Aside0 (Below w.heap.size w (((w52.setCell ⟨gb769, 0, none⟩ (.string ((rd_T62 l0 x7_1).f0))).setCell ⟨gb769, 1, none⟩ (.int .i64 ((rd_T62 l0 x7_1).f1))).setCell ⟨gb769, 2, none⟩ (.bool false))) := ⟨bW⟩
                    (try clear BK769)
                    (try clear HB)
                    generalize (((w52.setCell ⟨gb769, 0, none⟩ (.string ((rd_T62 l0 x7_1).f0))).setCell ⟨gb769, 1, none⟩ (.int .i64 ((rd_T62 l0 x7_1).f1))).setCell ⟨gb769, 2, none⟩ (.bool false)) = w54 at n0_ n1_ ⊢
                    have BK769 := n0_
                    have HB := n1_
                    clear n0_ n1_
                    have n0_ := Aside0.mk (blk_drew BK769.out)
                    have n1_ := Aside0.mk (below_drew1 HB.out)
                    clear BK769
                    clear HB
                    have BK769 := n0_
                    have HB := n1_
                    clear n0_ n1_
                    refine start_ (n := 34) (S := fun w' => w'.cell? ⟨gb769, 0, none⟩ = some (.string ((rd_T62 l0 x7_1).f0)) ∧ w'.cell? ⟨gb769, 1, none⟩ = some (.int .i64 ((rd_T62 l0 x7_1).f1)) ∧ w'.cell? ⟨gb769, 2, none⟩ = some (.bool false)) (ds := []) (bs 34 0) (by kernel_rfl) rfl rfl ⟨(blk_cell BK769.out 0).trans rfl, (blk_cell BK769.out 1).trans rfl, (blk_cell BK769.out 2).trans rfl⟩ (fun hHeld => ?_); refine with_tabW impl_EditsOK.tab4 impl_EditsOK.bits4 (fun HT_ HW_ => ?_)
                    generalize w54.drew = w55 at BK769 HB hHeld ⊢
                    refine pz 0 12 (bs 34 1) HT_ ?_
                    refine tz 1 13 (bs 34 3) HT_ HW_ hHeld ?_
                    refine one_ (i := 2) (N := some 14) (bs 34 7) rfl rfl (one_of HT_.out (by kernel_rfl)) (by decide) (fun K hK => ?_)
                    refine goes_ Try.func65 (by kernel_rfl) rfl #[.string ((rd_T62 l0 x7_1).f0)] (by rfl) rfl rfl gA ?_
                    with_reducible refine (impl_NameOK.calls ((rd_T62 l0 x7_1).f0) true _ A5.out).mono ?_
                    rintro e w56 ⟨rfl, hb⟩
                    refine ⟨_, rfl, ?_⟩
                    have n0_ := Aside0.mk (kb BK769 hb)
                    have n1_ := Aside0.mk (below_step (w := w) bW hb)
                    clear BK769
                    clear HB
                    have BK769 := n0_
                    have HB := n1_
                    clear n0_ n1_
                    (try clear hb)
                    refine hK.out _ _ ⟨(blk_cell BK769.out 0).trans rfl, (blk_cell BK769.out 1).trans rfl, (blk_cell BK769.out 2).trans rfl⟩ (fun hHeld => ?_)
                    clear hK K
                    refine norm_ (a' := ?_) ?_ ?_
                    rotate_left
                    · show Act.put _ (some 14) _ = _
                      simp only [Act.put, List.setIfInBounds_toArray, List.set_cons_zero, List.set_cons_succ, i64_w, i32_w]
                      rfl
                    refine pz 3 15 (bs 34 15) HT_ ?_
                    refine pz 4 16 (bs 34 31) HT_ ?_
                    refine pz 5 17 (bs 34 63) HT_ ?_
                    refine tz 6 18 (bs 34 127) HT_ HW_ hHeld ?_
                    refine one_ (i := 7) (N := some 19) (bs 34 255) rfl rfl (one_of HT_.out (by kernel_rfl)) (by decide) (fun K hK => ?_)
                    refine goes_ Try.func66 (by kernel_rfl) rfl #[.int .i64 ((rd_T62 l0 x7_1).f1)] (by rfl) rfl rfl gA ?_
                    with_reducible refine (impl_isValue.calls ((rd_T62 l0 x7_1).f1) true _ A7.out).mono ?_
                    rintro e w' ⟨rfl, ⟨nd, rfl⟩⟩
                    refine ⟨_, rfl, ?_⟩
                    refine hK.out _ _ ⟨(blk_cell BK769.out 0).trans rfl, (blk_cell BK769.out 1).trans rfl, (blk_cell BK769.out 2).trans rfl⟩ (fun hHeld => ?_)
                    clear hK K
                    refine norm_ (a' := ?_) ?_ ?_
                    rotate_left
                    · show Act.put _ (some 19) _ = _
                      simp only [Act.put, List.setIfInBounds_toArray, List.set_cons_zero, List.set_cons_succ, i64_w, i32_w]
                      rfl
                    refine pz 8 20 (bs 34 511) HT_ ?_
                    refine pz 9 21 (bs 34 1023) HT_ ?_
                    refine pz 10 22 (bs 34 2047) HT_ ?_
                    refine pz 11 23 (bs 34 4095) HT_ ?_
                    refine tz 12 24 (bs 34 8191) HT_ HW_ hHeld ?_
                    refine pz 13 25 (bs 34 16383) HT_ ?_
                    refine uz 14 26 (bs 34 32767) HT_ ?_
                    refine uz 15 27 (bs 34 65535) HT_ ?_
                    refine uz 16 28 (bs 34 131071) HT_ ?_
                    refine pz 17 29 (bs 34 262143) HT_ ?_
                    refine pz 18 30 (bs 34 524287) HT_ ?_
                    refine pz 19 31 (bs 34 1048575) HT_ ?_
                    refine pz 20 32 (bs 34 2097151) HT_ ?_
                    refine pz 21 33 (bs 34 4194303) HT_ ?_
                    refine pz 22 34 (bs 34 8388607) HT_ ?_
                    refine uz 23 35 (bs 34 16777215) HT_ ?_
                    refine uz 24 36 (bs 34 33554431) HT_ ?_
                    refine uz 25 37 (bs 34 67108863) HT_ ?_
                    refine uz 26 38 (bs 34 134217727) HT_ ?_
                    refine uz 27 39 (bs 34 268435455) HT_ ?_
                    refine uz 28 40 (bs 34 536870911) HT_ ?_
                    refine uz 29 41 (bs 34 1073741823) HT_ ?_
                    refine uz 30 42 (bs 34 2147483647) HT_ ?_
                    refine uz 31 43 (bs 34 4294967295) HT_ ?_
                    refine pz 32 44 (bs 34 8589934591) HT_ ?_
                    refine pz 33 45 (bs 34 17179869183) HT_ ?_
                    refine done_ (done_of HT_.out (by kernel_rfl)) ?_
                    try go_wp2
                    go_roundg k1
                    case measure => have := HK1.out; omega
                    case rel => exact ⟨(wrap64 (x7_1 + 1)), vE, H', ⟨by have := HK1.out; omega⟩, ⟨bW⟩⟩
              · replace c8 := Bool.eq_false_iff.mpr c8
                subst c8
                have H1 : (some false) = some r := by rw [if_neg (show ¬ (false = true) by decide)] at H; exact H
                clear H
                have H := H1
                clear H1
                obtain rfl := Option.some.inj H
                have p768 : 0 ≤ (x7_1 : Int) := odt
                have q768 : x7_1 < (l0.length : Int) := odt
                obtain ⟨ad768, e768, hx768_0, hx768_1, hx768_2⟩ := at_T62 HR0.out x7_1 p768 q768
                cases e768
                replace hx768_0 := (HB.out.cell (World.block_lt_of_cell? w _ hx768_0)).trans hx768_0
                replace hx768_1 := (HB.out.cell (World.block_lt_of_cell? w _ hx768_1)).trans hx768_1
                replace hx768_2 := (HB.out.cell (World.block_lt_of_cell? w _ hx768_2)).trans hx768_2
                replace p768 := eq_true p768
                replace q768 := eq_true q768
                try go_wp2_with (((with_reducible refine gate_dst (N := 4) rfl ?_); refine bE (N := 4) (cs := #[.string (⟨#[]⟩ : ByteArray), .int .i64 0, .bool false]) (t := 62) ?_; intro gb769 hg w57 hbox hb; have n0_ := Aside0.mk (below_step (w := w) bW hb); have n1_ := Aside0.mk (hbox); have n2_ := Aside0.mk (gS (w := w) hg); have n3_ := n2_; clear HB; have HB := n0_; have BK769 := n1_; have GW769 := n2_; have GE769 := n3_; clear n0_ n1_ n2_ n3_; clear hb hbox hg; obtain ⟨hcz58_0, hcz58_1, hcz58_2⟩ := cz3 BK769; obtain ⟨hfz58_0, hfz58_1, hfz58_2⟩ := fz3 BK769))
                have n0_ : Aside0 ((((w57.setCell ⟨gb769, 0, none⟩ (.string ((rd_T62 l0 x7_1).f0))).setCell ⟨gb769, 1, none⟩ (.int .i64 ((rd_T62 l0 x7_1).f1))).setCell ⟨gb769, 2, none⟩ (.bool ((rd_T62 l0 x7_1).f2))).heap[gb769]? = some (.cells #[.string ((rd_T62 l0 x7_1).f0), .int .i64 ((rd_T62 l0 x7_1).f1), .bool ((rd_T62 l0 x7_1).f2)] 62 (0, 0))) := ⟨by refine blk_put (cs := #[.string ((rd_T62 l0 x7_1).f0), .int .i64 ((rd_T62 l0 x7_1).f1), .bool false]) ?_ 2 _ rfl; refine blk_put (cs := #[.string ((rd_T62 l0 x7_1).f0), .int .i64 0, .bool false]) ?_ 1 _ rfl; refine blk_put (cs := #[.string (⟨#[]⟩ : ByteArray), .int .i64 0, .bool false]) ?_ 0 _ rfl; exact BK769.out⟩
                have n1_ : Aside0 (Below w.heap.size w (((w57.setCell ⟨gb769, 0, none⟩ (.string ((rd_T62 l0 x7_1).f0))).setCell ⟨gb769, 1, none⟩ (.int .i64 ((rd_T62 l0 x7_1).f1))).setCell ⟨gb769, 2, none⟩ (.bool ((rd_T62 l0 x7_1).f2)))) := ⟨bW⟩
                (try clear BK769)
                (try clear HB)
                generalize (((w57.setCell ⟨gb769, 0, none⟩ (.string ((rd_T62 l0 x7_1).f0))).setCell ⟨gb769, 1, none⟩ (.int .i64 ((rd_T62 l0 x7_1).f1))).setCell ⟨gb769, 2, none⟩ (.bool ((rd_T62 l0 x7_1).f2))) = w59 at n0_ n1_ ⊢
                have BK769 := n0_
                have HB := n1_
                clear n0_ n1_
                have n0_ := Aside0.mk (blk_drew BK769.out)
                have n1_ := Aside0.mk (below_drew1 HB.out)
                clear BK769
                clear HB
                have BK769 := n0_
                have HB := n1_
                clear n0_ n1_
                refine start_ (n := 34) (S := fun w' => w'.cell? ⟨gb769, 0, none⟩ = some (.string ((rd_T62 l0 x7_1).f0)) ∧ w'.cell? ⟨gb769, 1, none⟩ = some (.int .i64 ((rd_T62 l0 x7_1).f1)) ∧ w'.cell? ⟨gb769, 2, none⟩ = some (.bool ((rd_T62 l0 x7_1).f2))) (ds := []) (bs 34 0) (by kernel_rfl) rfl rfl ⟨(blk_cell BK769.out 0).trans rfl, (blk_cell BK769.out 1).trans rfl, (blk_cell BK769.out 2).trans rfl⟩ (fun hHeld => ?_); refine with_tabW impl_EditsOK.tab4 impl_EditsOK.bits4 (fun HT_ HW_ => ?_)
                generalize w59.drew = w60 at BK769 HB hHeld ⊢
                refine pz 0 12 (bs 34 1) HT_ ?_
                refine tz 1 13 (bs 34 3) HT_ HW_ hHeld ?_
                refine one_ (i := 2) (N := some 14) (bs 34 7) rfl rfl (one_of HT_.out (by kernel_rfl)) (by decide) (fun K hK => ?_)
                refine goes_ Try.func65 (by kernel_rfl) rfl #[.string ((rd_T62 l0 x7_1).f0)] (by rfl) rfl rfl gA ?_
                with_reducible refine (impl_NameOK.calls ((rd_T62 l0 x7_1).f0) true _ A5.out).mono ?_
                rintro e w61 ⟨rfl, hb⟩
                refine ⟨_, rfl, ?_⟩
                have n0_ := Aside0.mk (kb BK769 hb)
                have n1_ := Aside0.mk (below_step (w := w) bW hb)
                clear BK769
                clear HB
                have BK769 := n0_
                have HB := n1_
                clear n0_ n1_
                (try clear hb)
                refine hK.out _ _ ⟨(blk_cell BK769.out 0).trans rfl, (blk_cell BK769.out 1).trans rfl, (blk_cell BK769.out 2).trans rfl⟩ (fun hHeld => ?_)
                clear hK K
                refine norm_ (a' := ?_) ?_ ?_
                rotate_left
                · show Act.put _ (some 14) _ = _
                  simp only [Act.put, List.setIfInBounds_toArray, List.set_cons_zero, List.set_cons_succ, i64_w, i32_w]
                  rfl
                refine pz 3 15 (bs 34 15) HT_ ?_
                refine pz 4 16 (bs 34 31) HT_ ?_
                refine pz 5 17 (bs 34 63) HT_ ?_
                refine tz 6 18 (bs 34 127) HT_ HW_ hHeld ?_
                refine one_ (i := 7) (N := some 19) (bs 34 255) rfl rfl (one_of HT_.out (by kernel_rfl)) (by decide) (fun K hK => ?_)
                refine goes_ Try.func66 (by kernel_rfl) rfl #[.int .i64 ((rd_T62 l0 x7_1).f1)] (by rfl) rfl rfl gA ?_
                with_reducible refine (impl_isValue.calls ((rd_T62 l0 x7_1).f1) false _ A7.out).mono ?_
                rintro e w' ⟨rfl, ⟨nd, rfl⟩⟩
                refine ⟨_, rfl, ?_⟩
                refine hK.out _ _ ⟨(blk_cell BK769.out 0).trans rfl, (blk_cell BK769.out 1).trans rfl, (blk_cell BK769.out 2).trans rfl⟩ (fun hHeld => ?_)
                clear hK K
                refine norm_ (a' := ?_) ?_ ?_
                rotate_left
                · show Act.put _ (some 19) _ = _
                  simp only [Act.put, List.setIfInBounds_toArray, List.set_cons_zero, List.set_cons_succ, i64_w, i32_w]
                  rfl
                refine pz 8 20 (bs 34 511) HT_ ?_
                refine pz 9 21 (bs 34 1023) HT_ ?_
                refine pz 10 22 (bs 34 2047) HT_ ?_
                refine uz 11 23 (bs 34 4095) HT_ ?_
                refine uz 12 24 (bs 34 8191) HT_ ?_
                refine uz 13 25 (bs 34 16383) HT_ ?_
                refine uz 14 26 (bs 34 32767) HT_ ?_
                refine uz 15 27 (bs 34 65535) HT_ ?_
                refine uz 16 28 (bs 34 131071) HT_ ?_
                refine uz 17 29 (bs 34 262143) HT_ ?_
                refine pz 18 30 (bs 34 524287) HT_ ?_
                refine pz 19 31 (bs 34 1048575) HT_ ?_
                refine uz 20 32 (bs 34 2097151) HT_ ?_
                refine uz 21 33 (bs 34 4194303) HT_ ?_
                refine uz 22 34 (bs 34 8388607) HT_ ?_
                refine uz 23 35 (bs 34 16777215) HT_ ?_
                refine uz 24 36 (bs 34 33554431) HT_ ?_
                refine uz 25 37 (bs 34 67108863) HT_ ?_
                refine uz 26 38 (bs 34 134217727) HT_ ?_
                refine uz 27 39 (bs 34 268435455) HT_ ?_
                refine uz 28 40 (bs 34 536870911) HT_ ?_
                refine uz 29 41 (bs 34 1073741823) HT_ ?_
                refine uz 30 42 (bs 34 2147483647) HT_ ?_
                refine uz 31 43 (bs 34 4294967295) HT_ ?_
                refine uz 32 44 (bs 34 8589934591) HT_ ?_
                refine pz 33 45 (bs 34 17179869183) HT_ ?_
                refine done_ (done_of HT_.out (by kernel_rfl)) ?_
                try go_wp2
                go_ret
                exact ⟨rE, bW⟩
            · replace c6 := Bool.eq_false_iff.mpr c6
              subst c6
              have H1 : (some false) = some r := by rw [if_neg (show ¬ (false = true) by decide)] at H; exact H
              clear H
              have H := H1
              clear H1
              obtain rfl := Option.some.inj H
              have p768 : 0 ≤ (x7_1 : Int) := odt
              have q768 : x7_1 < (l0.length : Int) := odt
              obtain ⟨ad768, e768, hx768_0, hx768_1, hx768_2⟩ := at_T62 HR0.out x7_1 p768 q768
              cases e768
              replace hx768_0 := (HB.out.cell (World.block_lt_of_cell? w _ hx768_0)).trans hx768_0
              replace hx768_1 := (HB.out.cell (World.block_lt_of_cell? w _ hx768_1)).trans hx768_1
              replace hx768_2 := (HB.out.cell (World.block_lt_of_cell? w _ hx768_2)).trans hx768_2
              replace p768 := eq_true p768
              replace q768 := eq_true q768
              try go_wp2_with (((with_reducible refine gate_dst (N := 4) rfl ?_); refine bE (N := 4) (cs := #[.string (⟨#[]⟩ : ByteArray), .int .i64 0, .bool false]) (t := 62) ?_; intro gb769 hg w62 hbox hb; have n0_ := Aside0.mk (below_step (w := w) bW hb); have n1_ := Aside0.mk (hbox); have n2_ := Aside0.mk (gS (w := w) hg); have n3_ := n2_; clear HB; have HB := n0_; have BK769 := n1_; have GW769 := n2_; have GE769 := n3_; clear n0_ n1_ n2_ n3_; clear hb hbox hg; obtain ⟨hcz63_0, hcz63_1, hcz63_2⟩ := cz3 BK769; obtain ⟨hfz63_0, hfz63_1, hfz63_2⟩ := fz3 BK769))
              have n0_ : Aside0 ((((w62.setCell ⟨gb769, 0, none⟩ (.string ((rd_T62 l0 x7_1).f0))).setCell ⟨gb769, 1, none⟩ (.int .i64 ((rd_T62 l0 x7_1).f1))).setCell ⟨gb769, 2, none⟩ (.bool ((rd_T62 l0 x7_1).f2))).heap[gb769]? = some (.cells #[.string ((rd_T62 l0 x7_1).f0), .int .i64 ((rd_T62 l0 x7_1).f1), .bool ((rd_T62 l0 x7_1).f2)] 62 (0, 0))) := ⟨by refine blk_put (cs := #[.string ((rd_T62 l0 x7_1).f0), .int .i64 ((rd_T62 l0 x7_1).f1), .bool false]) ?_ 2 _ rfl; refine blk_put (cs := #[.string ((rd_T62 l0 x7_1).f0), .int .i64 0, .bool false]) ?_ 1 _ rfl; refine blk_put (cs := #[.string (⟨#[]⟩ : ByteArray), .int .i64 0, .bool false]) ?_ 0 _ rfl; exact BK769.out⟩
              have n1_ : Aside0 (Below w.heap.size w (((w62.setCell ⟨gb769, 0, none⟩ (.string ((rd_T62 l0 x7_1).f0))).setCell ⟨gb769, 1, none⟩ (.int .i64 ((rd_T62 l0 x7_1).f1))).setCell ⟨gb769, 2, none⟩ (.bool ((rd_T62 l0 x7_1).f2)))) := ⟨bW⟩
              (try clear BK769)
              (try clear HB)
              generalize (((w62.setCell ⟨gb769, 0, none⟩ (.string ((rd_T62 l0 x7_1).f0))).setCell ⟨gb769, 1, none⟩ (.int .i64 ((rd_T62 l0 x7_1).f1))).setCell ⟨gb769, 2, none⟩ (.bool ((rd_T62 l0 x7_1).f2))) = w64 at n0_ n1_ ⊢
              have BK769 := n0_
              have HB := n1_
              clear n0_ n1_
              have n0_ := Aside0.mk (blk_drew BK769.out)
              have n1_ := Aside0.mk (below_drew1 HB.out)
              clear BK769
              clear HB
              have BK769 := n0_
              have HB := n1_
              clear n0_ n1_
              refine start_ (n := 34) (S := fun w' => w'.cell? ⟨gb769, 0, none⟩ = some (.string ((rd_T62 l0 x7_1).f0)) ∧ w'.cell? ⟨gb769, 1, none⟩ = some (.int .i64 ((rd_T62 l0 x7_1).f1)) ∧ w'.cell? ⟨gb769, 2, none⟩ = some (.bool ((rd_T62 l0 x7_1).f2))) (ds := []) (bs 34 0) (by kernel_rfl) rfl rfl ⟨(blk_cell BK769.out 0).trans rfl, (blk_cell BK769.out 1).trans rfl, (blk_cell BK769.out 2).trans rfl⟩ (fun hHeld => ?_); refine with_tabW impl_EditsOK.tab4 impl_EditsOK.bits4 (fun HT_ HW_ => ?_)
              generalize w64.drew = w65 at BK769 HB hHeld ⊢
              refine pz 0 12 (bs 34 1) HT_ ?_
              refine tz 1 13 (bs 34 3) HT_ HW_ hHeld ?_
              refine one_ (i := 2) (N := some 14) (bs 34 7) rfl rfl (one_of HT_.out (by kernel_rfl)) (by decide) (fun K hK => ?_)
              refine goes_ Try.func65 (by kernel_rfl) rfl #[.string ((rd_T62 l0 x7_1).f0)] (by rfl) rfl rfl gA ?_
              with_reducible refine (impl_NameOK.calls ((rd_T62 l0 x7_1).f0) false _ A5.out).mono ?_
              rintro e w66 ⟨rfl, hb⟩
              refine ⟨_, rfl, ?_⟩
              have n0_ := Aside0.mk (kb BK769 hb)
              have n1_ := Aside0.mk (below_step (w := w) bW hb)
              clear BK769
              clear HB
              have BK769 := n0_
              have HB := n1_
              clear n0_ n1_
              (try clear hb)
              refine hK.out _ _ ⟨(blk_cell BK769.out 0).trans rfl, (blk_cell BK769.out 1).trans rfl, (blk_cell BK769.out 2).trans rfl⟩ (fun hHeld => ?_)
              clear hK K
              refine norm_ (a' := ?_) ?_ ?_
              rotate_left
              · show Act.put _ (some 14) _ = _
                simp only [Act.put, List.setIfInBounds_toArray, List.set_cons_zero, List.set_cons_succ, i64_w, i32_w]
                rfl
              refine pz 3 15 (bs 34 15) HT_ ?_
              refine pz 4 16 (bs 34 31) HT_ ?_
              refine uz 5 17 (bs 34 63) HT_ ?_
              refine uz 6 18 (bs 34 127) HT_ ?_
              refine uz 7 19 (bs 34 255) HT_ ?_
              refine uz 8 20 (bs 34 511) HT_ ?_
              refine pz 9 21 (bs 34 1023) HT_ ?_
              refine pz 10 22 (bs 34 2047) HT_ ?_
              refine uz 11 23 (bs 34 4095) HT_ ?_
              refine uz 12 24 (bs 34 8191) HT_ ?_
              refine uz 13 25 (bs 34 16383) HT_ ?_
              refine uz 14 26 (bs 34 32767) HT_ ?_
              refine uz 15 27 (bs 34 65535) HT_ ?_
              refine uz 16 28 (bs 34 131071) HT_ ?_
              refine uz 17 29 (bs 34 262143) HT_ ?_
              refine pz 18 30 (bs 34 524287) HT_ ?_
              refine pz 19 31 (bs 34 1048575) HT_ ?_
              refine uz 20 32 (bs 34 2097151) HT_ ?_
              refine uz 21 33 (bs 34 4194303) HT_ ?_
              refine uz 22 34 (bs 34 8388607) HT_ ?_
              refine uz 23 35 (bs 34 16777215) HT_ ?_
              refine uz 24 36 (bs 34 33554431) HT_ ?_
              refine uz 25 37 (bs 34 67108863) HT_ ?_
              refine uz 26 38 (bs 34 134217727) HT_ ?_
              refine uz 27 39 (bs 34 268435455) HT_ ?_
              refine uz 28 40 (bs 34 536870911) HT_ ?_
              refine uz 29 41 (bs 34 1073741823) HT_ ?_
              refine uz 30 42 (bs 34 2147483647) HT_ ?_
              refine uz 31 43 (bs 34 4294967295) HT_ ?_
              refine uz 32 44 (bs 34 8589934591) HT_ ?_
              refine pz 33 45 (bs 34 17179869183) HT_ ?_
              refine done_ (done_of HT_.out (by kernel_rfl)) ?_
              try go_wp2
              go_ret
              exact ⟨rE, bW⟩
          · rw [if_neg c4] at H
            exact absurd H (by simp)
        · rw [if_neg c3] at H
          exact absurd H (by simp)
      · rw [if_neg c2] at H
        have c2b0 : decide (x7_1 < (l0.length : Int)) = false := decide_eq_false c2
        clear c2
        obtain rfl := Option.some.inj H
        go_wp2
        go_ret
        exact ⟨rE, bW⟩
end Go.Proofs.Ytblejbgkcgajgaa.Q
end

section
namespace Go.Proofs.Ytblejbgkcgajgaa.Q
open Go.RowKit Go.Proofs.YtblejbgkcgajgaaW.PrintWords Go.Proofs.YtblejbgkcgajgaaW.PrintLast Go.Proofs.YtblejbgkcgajgaaW.PrintMore
attribute [local go_sem] max2_int min2_int max_two min_two max_three min_three max_four min_four   -- for this text's walks alone
set_option linter.unusedVariables false
set_option linter.unusedSimpArgs false
attribute [local go_sem] bin_leq bin_gtr bin_geq
mutual
def impl_MergeEdits.j0 : Nat → List (S55) → List (S62) → List (S62) → Bool → Option ((List (S55)) × List ByteArray × Int)
  | 0, _, _, _, _ => none
  | k + 1, x0, x1, x2, x9 => if x9 = true then (some (([] : List (S55)), ([] : List ByteArray), 2)) else ((impl_MapOK.f k x0).bind fun t777 => (if t777 = true then ((impl_EditsOK.f k x1).bind fun t778 => (if t778 = true then ((impl_EditsOK.f k x2).bind fun t779 => (impl_MergeEdits.j1 k x0 x1 x2 (!t779))) else (impl_MergeEdits.j1 k x0 x1 x2 true))) else (impl_MergeEdits.j1 k x0 x1 x2 true)))
def impl_MergeEdits.j1 : Nat → List (S55) → List (S62) → List (S62) → Bool → Option ((List (S55)) × List ByteArray × Int)
  | 0, _, _, _, _ => none
  | k + 1, x0, x1, x2, x23 => if x23 = true then (some (([] : List (S55)), ([] : List ByteArray), 1)) else ((impl_edited.f k x0 x1).bind fun t780 => ((impl_edited.f k x0 x2).bind fun t783 => ((impl_merge.f k x0 t780 t783).bind fun bt786 => (some (bt786.1, bt786.2.1, bt786.2.2)))))
end
def impl_MergeEdits.f (k : Nat) (l0 : List (S55)) (l1 : List (S62)) (l2 : List (S62)) : Option ((List (S55)) × List ByteArray × Int) := (impl_Entry_49.f l0).bind fun t774 => (if t774 = true then ((impl_Edit_50.f l1).bind fun t775 => (if t775 = true then ((impl_Edit_50.f l2).bind fun t776 => (impl_MergeEdits.j0 k l0 l1 l2 (!t776))) else (impl_MergeEdits.j0 k l0 l1 l2 true))) else (impl_MergeEdits.j0 k l0 l1 l2 true))
set_option maxHeartbeats 8000000 in
set_option maxRecDepth 100000 in
theorem impl_MergeEdits.calls (k : Nat) (A0 : Option Addr) (c0 : Nat) (l0 : List (S55)) (A1 : Option Addr) (c1 : Nat) (l1 : List (S62)) (A2 : Option Addr) (c2 : Nat) (l2 : List (S62)) (r1 : List (S55)) (r2 : List ByteArray) (r3 : Int) (w : World) (hr0 : Kd.C k55 w A0 l0.length l0) (hc0 : l0.length ≤ c0) (hr1 : Kd.C k62 w A1 l1.length l1) (hc1 : l1.length ≤ c1) (hr2 : Kd.C k62 w A2 l2.length l2) (hc2 : l2.length ≤ c2) (h : impl_MergeEdits.f k l0 l1 l2 = some (r1, r2, r3)) :
    Calls Try.prog 30 #[.slice A0 l0.length c0, .slice A1 l1.length c1, .slice A2 l2.length c2] w fun e w' => ∃ v0_ v1_ : Value, e = .returned (.tuple #[v0_, v1_, .int .i64 r3]) ∧ Kd.R k55 55 w' w.heap.size (fun _ => True) v0_ r1 ∧ Kd.R Kd.string 9 w' w.heap.size (fun _ => True) v1_ r2 ∧ Below w.heap.size w w' := by
  have HR0 := Aside0.mk hr0
  have HC0 := Aside0.mk hc0
  clear hr0 hc0
  have HR1 := Aside0.mk hr1
  have HC1 := Aside0.mk hc1
  clear hr1 hc1
  have HR2 := Aside0.mk hr2
  have HC2 := Aside0.mk hc2
  clear hr2 hc2
  have HB := Aside0.mk (Below.refl w.heap.size w)
  have H : ((impl_Entry_49.f l0).bind fun t774 => (if t774 = true then ((impl_Edit_50.f l1).bind fun t775 => (if t775 = true then ((impl_Edit_50.f l2).bind fun t776 => (impl_MergeEdits.j0 k l0 l1 l2 (!t776))) else (impl_MergeEdits.j0 k l0 l1 l2 true))) else (impl_MergeEdits.j0 k l0 l1 l2 true))) = some (r1, r2, r3) := h
  clear h
  have HC4 := Aside0.mk H
  clear H
  go_enter Try.func30, Try.ntmps30
  go_upto_region 1 with (fail)
  go_cut [9] (fun v9 wc => ∃ (kq : Nat) (x9_3 : Bool), v9 = .bool x9_3 ∧ Aside0 (impl_MergeEdits.j0 kq l0 l1 l2 x9_3 = some (r1, r2, r3)) ∧ Aside0 (kq ≤ k) ∧ Aside0 (Below w.heap.size w wc))
  case first =>
    have H := HC4.out
    clear HC4
    replace H := Option.bind_eq_some_iff.mp H
    obtain ⟨t774, A50, H⟩ := H
    replace H : (if t774 = true then ((impl_Edit_50.f l1).bind fun t775 => (if t775 = true then ((impl_Edit_50.f l2).bind fun t776 => (impl_MergeEdits.j0 k l0 l1 l2 (!t776))) else (impl_MergeEdits.j0 k l0 l1 l2 true))) else (impl_MergeEdits.j0 k l0 l1 l2 true)) = some (r1, r2, r3) := H
    have A5 := Aside0.mk A50
    clear A50
    by_cases c6 : t774 = true
    · subst c6
      have H1 : ((impl_Edit_50.f l1).bind fun t775 => (if t775 = true then ((impl_Edit_50.f l2).bind fun t776 => (impl_MergeEdits.j0 k l0 l1 l2 (!t776))) else (impl_MergeEdits.j0 k l0 l1 l2 true))) = some (r1, r2, r3) := by rw [if_pos rfl] at H; exact H
      clear H
      have H := H1
      clear H1
      replace H := Option.bind_eq_some_iff.mp H
      obtain ⟨t775, A70, H⟩ := H
      replace H : (if t775 = true then ((impl_Edit_50.f l2).bind fun t776 => (impl_MergeEdits.j0 k l0 l1 l2 (!t776))) else (impl_MergeEdits.j0 k l0 l1 l2 true)) = some (r1, r2, r3) := H
      have A7 := Aside0.mk A70
      clear A70
      by_cases c8 : t775 = true
      · subst c8
        have H1 : ((impl_Edit_50.f l2).bind fun t776 => (impl_MergeEdits.j0 k l0 l1 l2 (!t776))) = some (r1, r2, r3) := by rw [if_pos rfl] at H; exact H
        clear H
        have H := H1
        clear H1
        replace H := Option.bind_eq_some_iff.mp H
        obtain ⟨t776, A90, H⟩ := H
        replace H : (impl_MergeEdits.j0 k l0 l1 l2 (!t776)) = some (r1, r2, r3) := H
        have A9 := Aside0.mk A90
        clear A90
        have H' := Aside0.mk H
        clear H
        go_wp2_with (first | ((with_reducible refine gate_callee (f := 49) rfl ?_); refine goesL_ (some 11) rfl rfl Try.func49 (by kernel_rfl) rfl #[.slice A0 l0.length c0] rfl gA ?_; (with_reducible refine (impl_Entry_49.calls _ _ l0 true _ ?side1 ?side2 A5.out).mono ?_); (case side1 => exact cB HR0); (case side2 => exact HC0.out); rintro e w' ⟨rfl, ⟨nd, rfl⟩⟩; refine ⟨_, rfl, ?_⟩) | (go_at_call 50; (with_reducible refine (impl_Edit_50.calls _ _ l1 true _ ?side1 ?side2 A7.out).mono ?_); (case side1 => exact cB HR1); (case side2 => exact HC1.out); rintro e w' ⟨rfl, ⟨nd, rfl⟩⟩) | (go_at_call 50; (with_reducible refine (impl_Edit_50.calls _ _ l2 t776 _ ?side1 ?side2 A9.out).mono ?_); (case side1 => exact cB HR2); (case side2 => exact HC2.out); rintro e w' ⟨rfl, ⟨nd, rfl⟩⟩))
        go_meet
        case rel => exact ⟨_, (!t776), vE, H', ⟨by omega⟩, ⟨bW⟩⟩
      · replace c8 := Bool.eq_false_iff.mpr c8
        subst c8
        have H1 : (impl_MergeEdits.j0 k l0 l1 l2 true) = some (r1, r2, r3) := by rw [if_neg (show ¬ (false = true) by decide)] at H; exact H
        clear H
        have H := H1
        clear H1
        have H' := Aside0.mk H
        clear H
        go_wp2_with (first | ((with_reducible refine gate_callee (f := 49) rfl ?_); refine goesL_ (some 11) rfl rfl Try.func49 (by kernel_rfl) rfl #[.slice A0 l0.length c0] rfl gA ?_; (with_reducible refine (impl_Entry_49.calls _ _ l0 true _ ?side1 ?side2 A5.out).mono ?_); (case side1 => exact cB HR0); (case side2 => exact HC0.out); rintro e w' ⟨rfl, ⟨nd, rfl⟩⟩; refine ⟨_, rfl, ?_⟩) | (go_at_call 50; (with_reducible refine (impl_Edit_50.calls _ _ l1 false _ ?side1 ?side2 A7.out).mono ?_); (case side1 => exact cB HR1); (case side2 => exact HC1.out); rintro e w' ⟨rfl, ⟨nd, rfl⟩⟩))
        go_meet
        case rel => exact ⟨_, (true), vE, H', ⟨by omega⟩, ⟨bW⟩⟩
    · replace c6 := Bool.eq_false_iff.mpr c6
      subst c6
      have H1 : (impl_MergeEdits.j0 k l0 l1 l2 true) = some (r1, r2, r3) := by rw [if_neg (show ¬ (false = true) by decide)] at H; exact H
      clear H
      have H := H1
      clear H1
      have H' := Aside0.mk H
      clear H
      go_wp2_with (((with_reducible refine gate_callee (f := 49) rfl ?_); refine goesL_ (some 11) rfl rfl Try.func49 (by kernel_rfl) rfl #[.slice A0 l0.length c0] rfl gA ?_; (with_reducible refine (impl_Entry_49.calls _ _ l0 false _ ?side1 ?side2 A5.out).mono ?_); (case side1 => exact cB HR0); (case side2 => exact HC0.out); rintro e w' ⟨rfl, ⟨nd, rfl⟩⟩; refine ⟨_, rfl, ?_⟩))
      go_meet
      case rel => exact ⟨_, (true), vE, H', ⟨by omega⟩, ⟨bW⟩⟩
  case rest =>
    clear HC4
    obtain ⟨kq, x9_3, rfl, HA, HJ3, HB⟩ := hcut
    cases kq with
    | zero => exact absurd HA.out (by simp [impl_MergeEdits.j0])
    | succ kj3 =>
      have H := HA.out
      clear HA
      simp only [impl_MergeEdits.j0] at H
      by_cases c10 : x9_3 = true
      · subst c10
        have H1 : (some (([] : List (S55)), ([] : List ByteArray), 2)) = some (r1, r2, r3) := by rw [if_pos rfl] at H; exact H
        clear H
        have H := H1
        clear H1
        simp only [Option.some.injEq, Prod.mk.injEq] at H
        obtain ⟨rfl, rfl, rfl⟩ := H
        go_wp2
        go_ret3
        exact ⟨_, _, by rfl, by exact Kd.R_nil _ _ _ _ _, by exact Kd.R_nil _ _ _ _ _, bW⟩
      · replace c10 := Bool.eq_false_iff.mpr c10
        subst c10
        have H1 : ((impl_MapOK.f kj3 l0).bind fun t777 => (if t777 = true then ((impl_EditsOK.f kj3 l1).bind fun t778 => (if t778 = true then ((impl_EditsOK.f kj3 l2).bind fun t779 => (impl_MergeEdits.j1 kj3 l0 l1 l2 (!t779))) else (impl_MergeEdits.j1 kj3 l0 l1 l2 true))) else (impl_MergeEdits.j1 kj3 l0 l1 l2 true))) = some (r1, r2, r3) := by rw [if_neg (show ¬ (false = true) by decide)] at H; exact H
        clear H
        have H := H1
        clear H1
        have HC11 := Aside0.mk H
        clear H
        go_upto_region 3 with (fail)
        go_cut [23] (fun v23 wc => ∃ (kq : Nat) (x23_10 : Bool), v23 = .bool x23_10 ∧ Aside0 (impl_MergeEdits.j1 kq l0 l1 l2 x23_10 = some (r1, r2, r3)) ∧ Aside0 (kq ≤ kj3) ∧ Aside0 (Below w.heap.size w wc))
        case first =>
          have H := HC11.out
          clear HC11
          replace H := Option.bind_eq_some_iff.mp H
          obtain ⟨t777, A120, H⟩ := H
          replace H : (if t777 = true then ((impl_EditsOK.f kj3 l1).bind fun t778 => (if t778 = true then ((impl_EditsOK.f kj3 l2).bind fun t779 => (impl_MergeEdits.j1 kj3 l0 l1 l2 (!t779))) else (impl_MergeEdits.j1 kj3 l0 l1 l2 true))) else (impl_MergeEdits.j1 kj3 l0 l1 l2 true)) = some (r1, r2, r3) := H
          have A12 := Aside0.mk A120
          clear A120
          by_cases c13 : t777 = true
          · subst c13
            have H1 : ((impl_EditsOK.f kj3 l1).bind fun t778 => (if t778 = true then ((impl_EditsOK.f kj3 l2).bind fun t779 => (impl_MergeEdits.j1 kj3 l0 l1 l2 (!t779))) else (impl_MergeEdits.j1 kj3 l0 l1 l2 true))) = some (r1, r2, r3) := by rw [if_pos rfl] at H; exact H
            clear H
            have H := H1
            clear H1
            replace H := Option.bind_eq_some_iff.mp H
            obtain ⟨t778, A140, H⟩ := H
            replace H : (if t778 = true then ((impl_EditsOK.f kj3 l2).bind fun t779 => (impl_MergeEdits.j1 kj3 l0 l1 l2 (!t779))) else (impl_MergeEdits.j1 kj3 l0 l1 l2 true)) = some (r1, r2, r3) := H
            have A14 := Aside0.mk A140
            clear A140
            by_cases c15 : t778 = true
            · subst c15
              have H1 : ((impl_EditsOK.f kj3 l2).bind fun t779 => (impl_MergeEdits.j1 kj3 l0 l1 l2 (!t779))) = some (r1, r2, r3) := by rw [if_pos rfl] at H; exact H
              clear H
              have H := H1
              clear H1
              replace H := Option.bind_eq_some_iff.mp H
              obtain ⟨t779, A160, H⟩ := H
              replace H : (impl_MergeEdits.j1 kj3 l0 l1 l2 (!t779)) = some (r1, r2, r3) := H
              have A16 := Aside0.mk A160
              clear A160
              have H' := Aside0.mk H
              clear H
              go_wp2_with (first | ((with_reducible refine gate_callee (f := 51) rfl ?_); refine goesL_ (some 25) rfl rfl Try.func51 (by kernel_rfl) rfl #[.slice A0 l0.length c0] rfl gA ?_; (with_reducible refine (impl_MapOK.calls kj3 _ _ l0 true _ ?side1 ?side2 A12.out).mono ?_); (case side1 => exact cB HR0); (case side2 => exact HC0.out); rintro e w17 ⟨rfl, hb⟩; refine ⟨_, rfl, ?_⟩; have n0_ := Aside0.mk (below_step (w := w) bW hb); clear HB; have HB := n0_; clear n0_; (try clear hb)) | (go_at_call 52; (with_reducible refine (impl_EditsOK.calls kj3 _ _ l1 true _ ?side1 ?side2 A14.out).mono ?_); (case side1 => exact cB HR1); (case side2 => exact HC1.out); rintro e w18 ⟨rfl, hb⟩; have n0_ := Aside0.mk (below_step (w := w) bW hb); clear HB; have HB := n0_; clear n0_; (try clear hb)) | (go_at_call 52; (with_reducible refine (impl_EditsOK.calls kj3 _ _ l2 t779 _ ?side1 ?side2 A16.out).mono ?_); (case side1 => exact cB HR2); (case side2 => exact HC2.out); rintro e w19 ⟨rfl, hb⟩; have n0_ := Aside0.mk (below_step (w := w) bW hb); clear HB; have HB := n0_; clear n0_; (try clear hb)))
              go_meet
              case rel => exact ⟨_, (!t779), vE, H', ⟨by have := HJ3.out; omega⟩, ⟨bW⟩⟩
            · replace c15 := Bool.eq_false_iff.mpr c15
              subst c15
              have H1 : (impl_MergeEdits.j1 kj3 l0 l1 l2 true) = some (r1, r2, r3) := by rw [if_neg (show ¬ (false = true) by decide)] at H; exact H
              clear H
              have H := H1
              clear H1
              have H' := Aside0.mk H
              clear H
              go_wp2_with (first | ((with_reducible refine gate_callee (f := 51) rfl ?_); refine goesL_ (some 25) rfl rfl Try.func51 (by kernel_rfl) rfl #[.slice A0 l0.length c0] rfl gA ?_; (with_reducible refine (impl_MapOK.calls kj3 _ _ l0 true _ ?side1 ?side2 A12.out).mono ?_); (case side1 => exact cB HR0); (case side2 => exact HC0.out); rintro e w20 ⟨rfl, hb⟩; refine ⟨_, rfl, ?_⟩; have n0_ := Aside0.mk (below_step (w := w) bW hb); clear HB; have HB := n0_; clear n0_; (try clear hb)) | (go_at_call 52; (with_reducible refine (impl_EditsOK.calls kj3 _ _ l1 false _ ?side1 ?side2 A14.out).mono ?_); (case side1 => exact cB HR1); (case side2 => exact HC1.out); rintro e w21 ⟨rfl, hb⟩; have n0_ := Aside0.mk (below_step (w := w) bW hb); clear HB; have HB := n0_; clear n0_; (try clear hb)))
              go_meet
              case rel => exact ⟨_, (true), vE, H', ⟨by have := HJ3.out; omega⟩, ⟨bW⟩⟩
          · replace c13 := Bool.eq_false_iff.mpr c13
            subst c13
            have H1 : (impl_MergeEdits.j1 kj3 l0 l1 l2 true) = some (r1, r2, r3) := by rw [if_neg (show ¬ (false = true) by decide)] at H; exact H
            clear H
            have H := H1
            clear H1
            have H' := Aside0.mk H
            clear H
            go_wp2_with (((with_reducible refine gate_callee (f := 51) rfl ?_); refine goesL_ (some 25) rfl rfl Try.func51 (by kernel_rfl) rfl #[.slice A0 l0.length c0] rfl gA ?_; (with_reducible refine (impl_MapOK.calls kj3 _ _ l0 false _ ?side1 ?side2 A12.out).mono ?_); (case side1 => exact cB HR0); (case side2 => exact HC0.out); rintro e w22 ⟨rfl, hb⟩; refine ⟨_, rfl, ?_⟩; have n0_ := Aside0.mk (below_step (w := w) bW hb); clear HB; have HB := n0_; clear n0_; (try clear hb)))
            go_meet
            case rel => exact ⟨_, (true), vE, H', ⟨by have := HJ3.out; omega⟩, ⟨bW⟩⟩
        case rest =>
          clear HC11
          obtain ⟨kq, x23_10, rfl, HA, HJ10, HB⟩ := hcut
          cases kq with
          | zero => exact absurd HA.out (by simp [impl_MergeEdits.j1])
          | succ kj10 =>
            have H := HA.out
            clear HA
            simp only [impl_MergeEdits.j1] at H
            by_cases c23 : x23_10 = true
            · subst c23
              have H1 : (some (([] : List (S55)), ([] : List ByteArray), 1)) = some (r1, r2, r3) := by rw [if_pos rfl] at H; exact H
              clear H
              have H := H1
              clear H1
              simp only [Option.some.injEq, Prod.mk.injEq] at H
              obtain ⟨rfl, rfl, rfl⟩ := H
              go_wp2
              go_ret3
              exact ⟨_, _, by rfl, by exact Kd.R_nil _ _ _ _ _, by exact Kd.R_nil _ _ _ _ _, bW⟩
            · replace c23 := Bool.eq_false_iff.mpr c23
              subst c23
              have H1 : ((impl_edited.f kj10 l0 l1).bind fun t780 => ((impl_edited.f kj10 l0 l2).bind fun t783 => ((impl_merge.f kj10 l0 t780 t783).bind fun bt786 => (some (bt786.1, bt786.2.1, bt786.2.2))))) = some (r1, r2, r3) := by rw [if_neg (show ¬ (false = true) by decide)] at H; exact H
              clear H
              have H := H1
              clear H1
              replace H := Option.bind_eq_some_iff.mp H
              obtain ⟨t780, A240, H⟩ := H
              replace H : ((impl_edited.f kj10 l0 l2).bind fun t783 => ((impl_merge.f kj10 l0 t780 t783).bind fun bt786 => (some (bt786.1, bt786.2.1, bt786.2.2)))) = some (r1, r2, r3) := H
              have A24 := Aside0.mk A240
              clear A240
              replace H := Option.bind_eq_some_iff.mp H
              obtain ⟨t783, A250, H⟩ := H
              replace H : ((impl_merge.f kj10 l0 t780 t783).bind fun bt786 => (some (bt786.1, bt786.2.1, bt786.2.2))) = some (r1, r2, r3) := H
              have A25 := Aside0.mk A250
              clear A250
              replace H := Option.bind_eq_some_iff.mp H
              obtain ⟨⟨t786, t787, t788⟩, A260, H⟩ := H
              replace H : (some (t786, t787, t788)) = some (r1, r2, r3) := H
              have A26 := Aside0.mk A260
              clear A260
              simp only [Option.some.injEq, Prod.mk.injEq] at H
              obtain ⟨rfl, rfl, rfl⟩ := H
              go_wp2_with (first | ((with_reducible refine gate_callee (f := 53) rfl ?_); refine goesL_ (some 40) rfl rfl Try.func53 (by kernel_rfl) rfl #[.slice A0 l0.length c0, .slice A1 l1.length c1] rfl gA ?_; (with_reducible refine (impl_edited.calls kj10 _ _ l0 _ _ l1 t780 _ ?side1 ?side2 ?side3 ?side4 A24.out).mono ?_); (case side1 => exact cB HR0); (case side2 => exact HC0.out); (case side3 => exact cB HR1); (case side4 => exact HC1.out); rintro e w27 ⟨v781, rfl, ho0, hb⟩; refine ⟨_, rfl, ?_⟩; have n0_ := Aside0.mk (Kd.R_lower ho0 (below_size (w := w) bW)); have n1_ := Aside0.mk (below_step (w := w) bW hb); clear HB; have HO782 := n0_; have HB := n1_; clear n0_ n1_; (try clear hb); (try clear ho0)) | ((with_reducible refine gate_callee (f := 53) rfl ?_); refine goesL_ (some 43) rfl rfl Try.func53 (by kernel_rfl) rfl #[.slice A0 l0.length c0, .slice A2 l2.length c2] rfl gA ?_; (with_reducible refine (impl_edited.calls kj10 _ _ l0 _ _ l2 t783 _ ?side1 ?side2 ?side3 ?side4 A25.out).mono ?_); (case side1 => exact cB HR0); (case side2 => exact HC0.out); (case side3 => exact cB HR2); (case side4 => exact HC2.out); rintro e w28 ⟨v784, rfl, ho0, hb⟩; refine ⟨_, rfl, ?_⟩; have n0_ := Aside0.mk (Kd.R_elder' (pR HO782) (Kd.R_base ho0) hb); have n1_ := Aside0.mk (Kd.R_lower (Kd.R_new' ho0 (Kd.R_lt (pR HO782))) (below_size (w := w) bW)); have n2_ := Aside0.mk (below_step (w := w) bW hb); clear HO782; clear HB; have HO782 := n0_; have HO785 := n1_; have HB := n2_; clear n0_ n1_ n2_; (try clear hb); (try clear ho0); obtain ⟨Ao29, co29, eo29⟩ := Kd.R_slice HO782.out; subst eo29; obtain ⟨Ao30, co30, eo30⟩ := Kd.R_slice HO785.out; subst eo30) | ((with_reducible refine gate_callee (f := 44) rfl ?_); refine goesL_ (some 44) rfl rfl Try.func44 (by kernel_rfl) rfl #[.slice A0 l0.length c0, .slice Ao29 t780.length co29, .slice Ao30 t783.length co30] rfl gA ?_; (with_reducible refine (impl_merge.calls kj10 _ _ l0 _ _ t780 _ _ t783 t786 t787 t788 _ ?side1 ?side2 ?side3 ?side4 ?side5 ?side6 A26.out).mono ?_); (case side1 => exact cB HR0); (case side2 => exact HC0.out); (case side3 => repeat (exact (Kd.R_reads' HO782.out).2.2)); (case side4 => exact (Kd.R_reads' HO782.out).2.1); (case side5 => repeat (exact (Kd.R_reads' HO785.out).2.2)); (case side6 => exact (Kd.R_reads' HO785.out).2.1); rintro e w31 ⟨v789, v791, rfl, ho0, ho1, hb⟩; refine ⟨_, rfl, ?_⟩; have n0_ := Aside0.mk (Kd.R_elder' (pR HO782) (Kd.R_base ho0) hb); have n1_ := Aside0.mk (Kd.R_elder' (pR HO785) (Kd.R_base ho0) hb); have n2_ := Aside0.mk (Kd.R_lower (Kd.R_new' (Kd.R_new' ho0 (Kd.R_lt (pR HO782))) (Kd.R_lt (pR HO785))) (below_size (w := w) bW)); have n3_ := Aside0.mk (Kd.R_lower ho1 (below_size (w := w) bW)); have n4_ := Aside0.mk (below_step (w := w) bW hb); clear HO782; clear HO785; clear HB; have HO782 := n0_; have HO785 := n1_; have HO790 := n2_; have HO792 := n3_; have HB := n4_; clear n0_ n1_ n2_ n3_ n4_; (try clear hb); (try clear ho0); (try clear ho1)))
              go_ret3
              exact ⟨_, _, by rfl, by exact Kd.R_mono HO790.out (fun _ hk => trivial), by exact HO792.out, bW⟩
end Go.Proofs.Ytblejbgkcgajgaa.Q
end
