/- Parts of the proof of the law FnSelfMerge, joined into one text. -/
import Derived.Test.YtkmjmgkpcomldaaMFnSelfMerge2
section
namespace Go.Proofs.Ytkmjmgkpcomldaa.Q
open Go.RowKit Go.Proofs.YtkmjmgkpcomldaaW.PrintWords Go.Proofs.YtkmjmgkpcomldaaW.PrintLast Go.Proofs.YtkmjmgkpcomldaaW.PrintMore
attribute [local go_sem] max2_int min2_int max_two min_two max_three min_three max_four min_four   -- for this text's walks alone
set_option linter.unusedVariables false
set_option linter.unusedSimpArgs false
attribute [local go_sem] bin_leq bin_gtr bin_geq
def impl_Entry_83.f (l0 : List S35) (a1 : Int) (l2 : List S35) : Option (List S35) := match l2 with
  | [x] => if 0 ≤ a1 then (if a1 ≤ (l0.length : Int) then (if l0.length < 5000000 then some (l0.take a1.toNat ++ [x] ++ l0.drop a1.toNat) else none) else none) else none
  | _ => none
set_option maxHeartbeats 8000000 in
set_option maxRecDepth 100000 in
theorem impl_Entry_83.atEnd (l0 l2 : List S35) (w0 w : World) (P0_ P2_ : Nat → Prop) (v : Value) (g2 c2 : Nat) (hB : Below w0.heap.size w0 w) (ho0 : Kd.R k35 35 w w0.heap.size P0_ v l0) (hl2 : l2.length = 1) (hC2 : Kd.C k35 w (some ⟨g2, 0, none⟩) 1 l2) (hlen : l0.length < 5000000) :
    Calls Try.prog 83 #[v, .int .i64 (l0.length : Int), .slice (some ⟨g2, 0, none⟩) 1 c2] w fun e w' => ∃ v0_ : Value, e = .returned v0_ ∧ Kd.R k35 35 w' w0.heap.size (fun k_ => (P0_ k_ ∨ P2_ k_ ∨ w.heap.size ≤ k_)) v0_ (l0 ++ l2) ∧ Below w0.heap.size w0 w' ∧ Kept w w' (fun k_ => P0_ k_ ∨ P2_ k_) := by
  have HO := Aside0.mk (Kd.R_mono (ok' := fun k_ => (P0_ k_ ∨ P2_ k_ ∨ w.heap.size ≤ k_)) ho0 (fun k hk => .inl hk))
  have HB := Aside0.mk hB
  have H1 := Aside0.mk ho0.1
  have HC := Aside0.mk hC2
  obtain ⟨A0, c0, rfl⟩ := Kd.R_slice ho0
  have hnc : l0.length ≤ c0 := (Kd.R_reads' ho0).2.1
  obtain ⟨n, hn⟩ : ∃ n, n = l0.length := ⟨_, rfl⟩
  have HN := Aside0.mk hn
  rw [← hn] at HO H1 hnc hlen ⊢
  have hin : (n : Int) ≤ (n : Int) := Int.le_refl _
  have hm0 : ¬ ((1 : Nat) : Int) = 0 := by decide
  clear hB ho0 hC2 hn
  go_enter Try.func83, Try.ntmps83
  go_wp2_with (at_builtin; refine Kd.R_append_rows k35 (w0 := w0) w0.heap.size rfl (.tmp 23) (.tmp 24) 23 35 (.agg #[(.string ⟨#[]⟩), (.int .i64 0)]) 24 rfl Try.underlying23 info35 rfl (by decide) (by omega) (.slice A0 n c0) l0 l2 (some ⟨g2, 0, none⟩) 1 c2 (fun k_ => (P0_ k_ ∨ P2_ k_ ∨ w.heap.size ≤ k_)) (fun _ => False) rfl rfl HO.out HC.out (fun x cs hK => by rw [k35_open hK]; exact k35_mkM _ _ _ x) (fun _ h => h.elim) (fun k hk => .inr (.inr hk)) HB.out (below_size HB.out) (by rw [← HN.out]; omega) ?_; intro v1 w1 hr hb hg _; have HR1 := Aside0.mk hr; have HB1 := Aside0.mk hb; have HG1 := Aside0.mk hg; clear hr hb hg)
  all_goals
    go_ret
    refine ⟨_, rfl, HR1.out, HB1.out, ⟨HG1.out.size, fun k hk hn2 => HG1.out.block k hk (fun e => hn2 (.inl (H1.out k e.symm)))⟩⟩
set_option maxHeartbeats 8000000 in
set_option maxRecDepth 100000 in
theorem impl_Entry_83.shift (l0 : List S35) (x : S35) (w0 w : World) (P0_ P2_ : Nat → Prop) (g cap g2 cap2 i n m j k : Nat) (cur cur2 : Array Value) (hB : Below w0.heap.size w0 w) (hbg : w0.heap.size ≤ g) (hok : P0_ g) (hne : g2 ≠ g)
    (hg : w.heap[g]? = some (.cells cur 35 (0, 0))) (hm : cap ≤ maxLen) (hs : cur.size = cap * 2) (ht : cur.toList.take (n * 2) = l0.flatMap encE)
    (hg2 : w.heap[g2]? = some (.cells cur2 35 (0, 0))) (hs2 : cur2.size = cap2 * 2) (hmc : m ≤ cap2) (ht2 : cur2.toList.take (m * 2) = encE x)
    (hn : n = l0.length) (hm1 : m = 1) (hi : i < n) (hnc : n ≤ cap) (hj : j = i + m) (hk : k = n + m) (h50 : n < 5000000) (hroom : k ≤ cap) :
    Calls Try.prog 83 #[.slice (some ⟨g, 0, none⟩) n cap, .int .i64 (i : Int), .slice (some ⟨g2, 0, none⟩) m cap2] w fun e w' => ∃ v0_ : Value, e = .returned v0_ ∧ Kd.R k35 35 w' w0.heap.size (fun k_ => (P0_ k_ ∨ P2_ k_ ∨ w.heap.size ≤ k_)) v0_ (l0.take i ++ [x] ++ l0.drop i) ∧ Below w0.heap.size w0 w' ∧ Kept w w' (fun k_ => P0_ k_ ∨ P2_ k_) := by
  unfold maxLen at hm
  obtain ⟨i0, hi0, hzz⟩ := Option.map_eq_some_iff.1 info35
  simp only [Prod.mk.injEq] at hzz
  obtain ⟨hz0, hz1, hzb⟩ := hzz
  have hsz : (Try.prog.info? 35).map (·.size) = some 2 := by rw [hi0]; simp [hz1]
  have hso : ∀ w, (Go.sizeOf 35).run Try.prog w = .ok 2 w := fun w => by simp [Go.sizeOf, typeInfo, hi0, hz1]
  obtain ⟨cs1, hcs1⟩ : ∃ cs1, cs1 = (l0.drop i).flatMap encE := ⟨_, rfl⟩
  have hc1 : cs1.length = (n - i) * 2 := by rw [hcs1, flat_len encE_len, List.length_drop, hn]
  have hsrc : ∀ (t : Nat) (u : Value), cs1[t]? = some u → cur[i * 2 + t]? = some u := by
    intro t u hu
    have htl : t < (n - i) * 2 := by
      have := (List.getElem?_eq_some_iff.1 hu).1
      rwa [hc1] at this
    rw [hcs1, ← flat_drop encE_len, List.getElem?_drop, ← ht, List.getElem?_take, if_pos (by omega)] at hu
    simpa using hu
  have hsrc2 : ∀ (t : Nat) (u : Value), (encE x)[t]? = some u → cur2[t]? = some u := by
    intro t u hu
    have htl : t < 2 := (List.getElem?_eq_some_iff.1 hu).1
    rw [← ht2, List.getElem?_take, if_pos (by omega)] at hu
    simpa using hu
  have one_e : ∀ u ∈ encE x, u.oneCell' = true := by
    intro u hu
    have := one_flat [x] u (by rw [List.flatMap_cons, List.flatMap_nil, List.append_nil]; exact hu)
    exact this
  have hz1' : ¬ ((m : Int) = 0) := by omega
  have hz2 : ¬ ((i : Int) = (n : Int)) := by omega
  have hin : i ≤ n := by omega
  have hic : i ≤ cap := by omega
  have hik : i ≤ k := by omega
  have hjk : j ≤ k := by omega
  have hci : ¬ (cap = i) := by omega
  have hci' : ¬ ((cap : Int) = (i : Int)) := by omega
  have e1 : (cur.toList.take (i * 2)) = (l0.take i).flatMap encE := by
    rw [← flat_take encE_len, ← ht, List.take_take, Nat.min_eq_left (by omega)]
  have e2 : (l0.take i).flatMap encE ++ encE x ++ cs1 = (l0.take i ++ [x] ++ l0.drop i).flatMap encE := by
    rw [hcs1, List.flatMap_append, List.flatMap_append, List.flatMap_cons, List.flatMap_nil, List.append_nil]
  have e3 : (l0.take i ++ [x] ++ l0.drop i).length = k := by
    simp only [List.length_append, List.length_take, List.length_drop, List.length_cons, List.length_nil]
    omega
  have hov : ∀ lb cb, (callFunc 110 #[.slice (some ⟨g2, 0, none⟩) m cap2, .slice (some ⟨g, j * 2, none⟩) lb cb]).run Try.prog w = .ok (.value (.bool false)) w := fun lb cb => by
    rw [run_callFunc_extern Try.func110 (by kernel_rfl) (by kernel_rfl) (by kernel_rfl) (e := Extern.SlicesOverlaps.overlaps #[23, 23] #[4]) (by kernel_rfl),
      Lib.run_overlaps_apart w 23 4 35 Try.underlying23 2 hso ⟨g2, 0, none⟩ ⟨g, j * 2, none⟩ m cap2 lb cb hne 35 35 cur2.size cur.size (by simp [World.shape?, hg2]) (by simp [World.shape?, hg]) (by omega) (blk_frozen hg2 _) (blk_frozen hg2 _)]
    rfl
  obtain ⟨cur1, hcur1⟩ : ∃ cur1 : Array Value, cur1 = (cur.toList.take (j * 2) ++ cs1 ++ cur.toList.drop (j * 2 + cs1.length)).toArray := ⟨_, rfl⟩
  have hc1s : cur1.size = cap * 2 := by
    rw [hcur1]
    simp only [List.size_toArray, List.length_append, List.length_take, List.length_drop, Array.length_toList, hc1, hs]
    omega
  obtain ⟨W1, hW1⟩ : ∃ W1, W1 = w.drew.setRow g cur1 := ⟨_, rfl⟩
  have hg1 : W1.heap[g]? = some (.cells cur1 35 (0, 0)) := by rw [hW1]; exact setRow_heap w.drew g cur cur1 _ _ hg
  have hg21 : W1.heap[g2]? = some (.cells cur2 35 (0, 0)) := by rw [hW1, setRow_other w.drew g g2 cur1 hne]; exact hg2
  have hcp1 : Aside0 (∀ ty, (Builtin.copy_ #[23, 23] ty #[.slice (some ⟨g, j * 2, none⟩) (k - j) (cap - j), .slice (some ⟨g, i * 2, none⟩) (k - i) (cap - i)]).run Try.prog w.drew = .ok (goInt (n - i : Nat)) W1) := Aside0.mk fun ty => by
    rw [hW1, hcur1]
    exact run_copy_rowk w.drew _ _ ty 35 2 g (j * 2) (k - j) (cap - j) ⟨g, i * 2, none⟩ (k - i) (cap - i) (n - i) cur 35 cs1 Try.underlying23 hsz hg (by simp only [Nat.min_def]; split <;> omega) hc1
      (fun t u hu => by rw [Addr.add_lit]; exact (blk_cell (w := w.drew) hg (i * 2 + t)).trans (hsrc t u hu)) (by rw [hc1, hs]; omega) (by rw [hcs1]; exact one_flat _)
  obtain ⟨cur3, hcur3⟩ : ∃ cur3 : Array Value, cur3 = (cur1.toList.take (i * 2) ++ encE x ++ cur1.toList.drop (i * 2 + (encE x).length)).toArray := ⟨_, rfl⟩
  have hcp2 : Aside0 (∀ ty, (Builtin.copy_ #[23, 23] ty #[.slice (some ⟨g, i * 2, none⟩) (k - i) (cap - i), .slice (some ⟨g2, 0, none⟩) m cap2]).run Try.prog W1 = .ok (goInt m) (W1.setRow g cur3)) := Aside0.mk fun ty => by
    rw [hcur3]
    exact run_copy_rowk W1 _ _ ty 35 2 g (i * 2) (k - i) (cap - i) ⟨g2, 0, none⟩ m cap2 m cur1 35 (encE x) Try.underlying23 hsz hg1 (by simp only [Nat.min_def]; split <;> omega) (by rw [hm1]; rfl)
      (fun t u hu => by rw [Addr.add_lit, Nat.zero_add]; exact (blk_cell hg21 t).trans (hsrc2 t u hu)) (by rw [hc1s]; show i * 2 + 2 ≤ _; omega) one_e
  have hout : cur3.toList.take (k * 2) = (l0.take i ++ [x] ++ l0.drop i).flatMap encE := by
    have hb : j * 2 = i * 2 + (encE x).length := by show j * 2 = i * 2 + 2; omega
    have hl : j * 2 + cs1.length ≤ cur.toList.length := by rw [hc1, Array.length_toList, hs]; omega
    rw [hcur3, hcur1, List.toList_toArray, List.toList_toArray, row_shift hb hl, e1, e2, List.take_append_of_le_length (by rw [flat_len encE_len, e3]; omega), List.take_of_length_le (by rw [flat_len encE_len, e3]; omega)]
  have hc3s : cur3.size = cap * 2 := by
    rw [hcur3]
    simp only [List.size_toArray, List.length_append, List.length_take, List.length_drop, Array.length_toList, hc1s, encE, List.length_cons, List.length_nil]
    omega
  have hfin : Kd.R k35 35 (W1.setRow g cur3) w0.heap.size (fun k_ => (P0_ k_ ∨ P2_ k_ ∨ w.heap.size ≤ k_)) (.slice (some ⟨g, 0, none⟩) k cap) (l0.take i ++ [x] ++ l0.drop i) :=
    flatR_mk entM encE_len rfl e3.symm hbg (.inl hok) (setRow_heap W1 g cur1 _ _ _ hg1) hroom (by unfold maxLen; omega) hc3s hout
  have hbel : Below w0.heap.size w0 (W1.setRow g cur3) := by
    rw [hW1]
    exact below_setRow (below_setRow (below_drew hB) hbg _) hbg _
  have hkp : Kept w (W1.setRow g cur3) (fun k_ => P0_ k_ ∨ P2_ k_) := by
    rw [hW1]
    exact kept_setRow (kept_setRow (Kept.drew (Kept.refl w _)) (.inl (.inl hok)) _) (.inl (.inl hok)) _
  have HF := Aside0.mk (And.intro hfin (And.intro hbel hkp))
  have hcj : ¬ (cap = j) := by omega
  have hgt : ¬ ((cap : Int) < (k : Int)) := by omega
  have hkc : k ≤ cap := hroom
  have hj10 : i + m = j ∧ j < 10000000 ∧ n + m = k ∧ k < 10000000 ∧ k = i + (k - i) := by omega
  have hw1 : True → IntKind.i64.wrap ((i : Int) + (m : Int)) = (j : Int) := fun _ => (wI hj10.1 hj10.2.1).1
  have hw1' : True → wrap64 ((i : Int) + (m : Int)) = (j : Int) := fun _ => (wI hj10.1 hj10.2.1).2
  have hw2 : True → IntKind.i64.wrap ((n : Int) + (m : Int)) = (k : Int) := fun _ => (wI hj10.2.2.1 hj10.2.2.2.1).1
  have hw2' : True → wrap64 ((n : Int) + (m : Int)) = (k : Int) := fun _ => (wI hj10.2.2.1 hj10.2.2.2.1).2
  have hw3 : True → IntKind.i64.wrap ((k : Int) - (i : Int)) = ((k - i : Nat) : Int) := fun _ => (wS hj10.2.2.2.2 hj10.2.2.2.1).1
  have hw3' : True → wrap64 ((k : Int) - (i : Int)) = ((k - i : Nat) : Int) := fun _ => (wS hj10.2.2.2.2 hj10.2.2.2.1).2
  clear hj10 h50
  clear hB hg hg2 hg1 hg21 hs hs2 ht ht2 hcs1 hc1 hsrc hsrc2 one_e e1 e2 e3 hcur1 hc1s hW1 hcur3 hout hc3s hfin hbel hkp hok hn hj hk hm1
  go_enter Try.func83, Try.ntmps83
  go_wp2_with (simp only [hov])
  go_region_law (refine step_copy_runI rfl (.tmp 73) (.tmp 76) 23 23 rfl (.slice (some ⟨g, j * 2, none⟩) (k - j) (cap - j)) (.slice (some ⟨g, i * 2, none⟩) (k - i) (cap - i)) (by simp [Act.eval, Act.put]) (by simp [Act.eval, Act.put]) (hcp1.out _) ?_)
  have hcp3 := hcp2.out
  go_wp2
  go_ret
  exact ⟨_, rfl, HF.out.1, HF.out.2.1, HF.out.2.2⟩
set_option maxHeartbeats 8000000 in
set_option maxRecDepth 100000 in
theorem impl_Entry_83.grow (l0 : List S35) (x : S35) (w0 w : World) (P0_ P2_ : Nat → Prop) (g cap g2 cap2 i n m j k : Nat) (cur cur2 : Array Value) (hB : Below w0.heap.size w0 w) (hbg : w0.heap.size ≤ g) (hok : P0_ g) (hne : g2 ≠ g)
    (hg : w.heap[g]? = some (.cells cur 35 (0, 0))) (hm : cap ≤ maxLen) (hs : cur.size = cap * 2) (ht : cur.toList.take (n * 2) = l0.flatMap encE)
    (hg2 : w.heap[g2]? = some (.cells cur2 35 (0, 0))) (hs2 : cur2.size = cap2 * 2) (hmc : m ≤ cap2) (ht2 : cur2.toList.take (m * 2) = encE x)
    (hn : n = l0.length) (hm1 : m = 1) (hi : i < n) (hnc : n ≤ cap) (hj : j = i + m) (hk : k = n + m) (h50 : n < 5000000) (hroom : cap < k) :
    Calls Try.prog 83 #[.slice (some ⟨g, 0, none⟩) n cap, .int .i64 (i : Int), .slice (some ⟨g2, 0, none⟩) m cap2] w fun e w' => ∃ v0_ : Value, e = .returned v0_ ∧ Kd.R k35 35 w' w0.heap.size (fun k_ => (P0_ k_ ∨ P2_ k_ ∨ w.heap.size ≤ k_)) v0_ (l0.take i ++ [x] ++ l0.drop i) ∧ Below w0.heap.size w0 w' ∧ Kept w w' (fun k_ => P0_ k_ ∨ P2_ k_) := by
  unfold maxLen at hm
  obtain ⟨i0, hi0, hzz⟩ := Option.map_eq_some_iff.1 info35
  simp only [Prod.mk.injEq] at hzz
  obtain ⟨hz0, hz1, hzb⟩ := hzz
  have hsz : (Try.prog.info? 35).map (·.size) = some 2 := by rw [hi0]; simp [hz1]
  have hso : ∀ w, (Go.sizeOf 35).run Try.prog w = .ok 2 w := fun w => by simp [Go.sizeOf, typeInfo, hi0, hz1]
  obtain ⟨cs1, hcs1⟩ : ∃ cs1, cs1 = (l0.drop i).flatMap encE := ⟨_, rfl⟩
  have hc1 : cs1.length = (n - i) * 2 := by rw [hcs1, flat_len encE_len, List.length_drop, hn]
  have hsrc : ∀ (t : Nat) (u : Value), cs1[t]? = some u → cur[i * 2 + t]? = some u := by
    intro t u hu
    have htl : t < (n - i) * 2 := by
      have := (List.getElem?_eq_some_iff.1 hu).1
      rwa [hc1] at this
    rw [hcs1, ← flat_drop encE_len, List.getElem?_drop, ← ht, List.getElem?_take, if_pos (by omega)] at hu
    simpa using hu
  have hsrc2 : ∀ (t : Nat) (u : Value), (encE x)[t]? = some u → cur2[t]? = some u := by
    intro t u hu
    have htl : t < 2 := (List.getElem?_eq_some_iff.1 hu).1
    rw [← ht2, List.getElem?_take, if_pos (by omega)] at hu
    simpa using hu
  have one_e : ∀ u ∈ encE x, u.oneCell' = true := by
    intro u hu
    have := one_flat [x] u (by rw [List.flatMap_cons, List.flatMap_nil, List.append_nil]; exact hu)
    exact this
  have hz1' : ¬ ((m : Int) = 0) := by omega
  have hz2 : ¬ ((i : Int) = (n : Int)) := by omega
  have hin : i ≤ n := by omega
  have hic : i ≤ cap := by omega
  have hik : i ≤ k := by omega
  have hjk : j ≤ k := by omega
  have hci : ¬ (cap = i) := by omega
  have hci' : ¬ ((cap : Int) = (i : Int)) := by omega
  have e1 : (cur.toList.take (i * 2)) = (l0.take i).flatMap encE := by
    rw [← flat_take encE_len, ← ht, List.take_take, Nat.min_eq_left (by omega)]
  have e2 : (l0.take i).flatMap encE ++ encE x ++ cs1 = (l0.take i ++ [x] ++ l0.drop i).flatMap encE := by
    rw [hcs1, List.flatMap_append, List.flatMap_append, List.flatMap_cons, List.flatMap_nil, List.append_nil]
  have e3 : (l0.take i ++ [x] ++ l0.drop i).length = k := by
    simp only [List.length_append, List.length_take, List.length_drop, List.length_cons, List.length_nil]
    omega
  have hbw : g < w.heap.size := blk_lt hg
  have hbw2 : g2 < w.heap.size := blk_lt hg2
  have hold : (Builtin.firstCells i0.size i (.slice (some ⟨g, 0, none⟩) i cap)).run Try.prog w.drew = .ok ((l0.take i).flatMap encE).toArray w.drew := by
    rw [hz1]
    exact run_firstCells_some w.drew 2 i ⟨g, 0, none⟩ i cap _ (by rw [flat_len encE_len, List.length_take, Nat.min_eq_left (by omega)]) (fun t u hu => by
      rw [Addr.add_lit, Nat.zero_add]
      refine (blk_cell (w := w.drew) hg t).trans ?_
      rw [← e1, List.getElem?_take] at hu
      split at hu
      · simpa using hu
      · cases hu)
  obtain ⟨G, hG⟩ : ∃ G, G = grownCap w k cap 35 := ⟨_, rfl⟩
  have hGn : k ≤ G := by rw [hG]; exact grownCap_ge w _ _ _
  have hGm : G ≤ maxLen := by
    rw [hG]
    exact grownCap_le_maxLen w k cap 35 (by unfold maxLen; omega)
  obtain ⟨ROW, hROW⟩ : ∃ ROW : Array Value, ROW = ((l0.take i).flatMap encE).toArray ++ Builtin.zeroCells (Value.agg #[.string ⟨#[]⟩, .int .i64 0]).cells (k - i) ++ Builtin.zeroCells (Value.agg #[.string ⟨#[]⟩, .int .i64 0]).cells (G - k) := ⟨_, rfl⟩
  obtain ⟨W1, hW1⟩ : ∃ W1, W1 = w.drew.alloc (.cells ROW 35) := ⟨_, rfl⟩
  have hikk : i + (k - i) = k := by omega
  have hrz : Aside0 (∀ ty, (Builtin.append_ #[23, 3] ty #[.slice (some ⟨g, 0, none⟩) i cap, .int .i64 ((k - i : Nat) : Int)]).run Try.prog w = .ok (.slice (some ⟨w.heap.size, 0, none⟩) k G) W1) := Aside0.mk fun ty => by
    have h := Lib.run_append_grow_zeros w 23 3 ty 35 i0 (.agg #[.string ⟨#[]⟩, .int .i64 0]) .i64 .i64 Try.underlying23 Try.underlying3 hi0 hz0 (some ⟨g, 0, none⟩) i cap _ hold (k - i) (by omega) (by rw [hz1]; omega) (by omega) (by omega) (by rw [hzb]; omega) (by rw [hzb, hikk]; exact growslice_fits hroom (by omega))
    rw [hikk, ← hG, ← hROW, ← hW1] at h
    exact h
  have zl : ∀ q, (Builtin.zeroCells (Value.agg #[.string ⟨#[]⟩, .int .i64 0]).cells q).size = q * 2 := fun q => by
    simp [Builtin.zeroCells, Value.cells]
  have hRs : ROW.size = G * 2 := by
    rw [hROW, Array.size_append, Array.size_append, List.size_toArray, flat_len encE_len, List.length_take, zl, zl]
    omega
  have hRt : ROW.toList.take (i * 2) = (l0.take i).flatMap encE := by
    have hl : ((l0.take i).flatMap encE).length = i * 2 := by rw [flat_len encE_len, List.length_take]; omega
    rw [hROW, Array.toList_append, Array.toList_append, List.append_assoc, List.take_append_of_le_length (by simp only []; omega), List.take_of_length_le (by simp only []; omega)]
  have hN : W1.heap[w.heap.size]? = some (.cells ROW 35 (0, 0)) := by
    rw [hW1]
    exact heap_alloc_new w.drew _
  have hO : ∀ q, q < w.heap.size → W1.heap[q]? = w.heap[q]? := fun q hq => by
    rw [hW1]
    exact (below_alloc (Below.refl w.drew.heap.size w.drew) (.cells ROW 35)).block q hq
  obtain ⟨ROW2, hR2⟩ : ∃ ROW2 : Array Value, ROW2 = (ROW.toList.take (i * 2) ++ encE x ++ ROW.toList.drop (i * 2 + (encE x).length)).toArray := ⟨_, rfl⟩
  have hR2s : ROW2.size = G * 2 := by
    rw [hR2]
    simp only [List.size_toArray, List.length_append, List.length_take, List.length_drop, Array.length_toList, hRs, encE, List.length_cons, List.length_nil]
    omega
  obtain ⟨W2, hW2⟩ : ∃ W2, W2 = W1.setRow w.heap.size ROW2 := ⟨_, rfl⟩
  have hcpA : ∀ ty, (Builtin.copy_ #[23, 23] ty #[.slice (some ⟨w.heap.size, i * 2, none⟩) (k - i) (G - i), .slice (some ⟨g2, 0, none⟩) m cap2]).run Try.prog W1 = .ok (goInt m) W2 := fun ty => by
    rw [hW2, hR2]
    exact run_copy_rowk W1 _ _ ty 35 2 w.heap.size (i * 2) (k - i) (G - i) ⟨g2, 0, none⟩ m cap2 m ROW 35 (encE x) Try.underlying23 hsz hN (by simp only [Nat.min_def]; split <;> omega) (by rw [hm1]; rfl)
      (fun t u hu => by rw [Addr.add_lit, Nat.zero_add]; exact (blk_cell ((hO g2 hbw2).trans hg2) t).trans (hsrc2 t u hu)) (by rw [hRs]; show i * 2 + 2 ≤ _; omega) one_e
  have hN2 : W2.heap[w.heap.size]? = some (.cells ROW2 35 (0, 0)) := by rw [hW2]; exact setRow_heap W1 _ ROW ROW2 _ _ hN
  have hg2' : W2.heap[g]? = some (.cells cur 35 (0, 0)) := by rw [hW2, setRow_other W1 w.heap.size g ROW2 (by omega), hO g hbw]; exact hg
  obtain ⟨ROW3, hR3⟩ : ∃ ROW3 : Array Value, ROW3 = (ROW2.toList.take (j * 2) ++ cs1 ++ ROW2.toList.drop (j * 2 + cs1.length)).toArray := ⟨_, rfl⟩
  have hcpB : Aside0 (∀ ty, (Builtin.copy_ #[23, 23] ty #[.slice (some ⟨w.heap.size, j * 2, none⟩) (k - j) (G - j), .slice (some ⟨g, i * 2, none⟩) (n - i) (cap - i)]).run Try.prog W2.drew = .ok (goInt (n - i : Nat)) (W2.drew.setRow w.heap.size ROW3)) := Aside0.mk fun ty => by
    rw [hR3]
    exact run_copy_rowk W2.drew _ _ ty 35 2 w.heap.size (j * 2) (k - j) (G - j) ⟨g, i * 2, none⟩ (n - i) (cap - i) (n - i) ROW2 35 cs1 Try.underlying23 hsz hN2 (by simp only [Nat.min_def]; split <;> omega) hc1
      (fun t u hu => by rw [Addr.add_lit]; exact (blk_cell (w := W2.drew) hg2' (i * 2 + t)).trans (hsrc t u hu)) (by rw [hc1, hR2s]; omega) (by rw [hcs1]; exact one_flat _)
  have hR3s : ROW3.size = G * 2 := by
    rw [hR3]
    simp only [List.size_toArray, List.length_append, List.length_take, List.length_drop, Array.length_toList, hR2s, hc1]
    omega
  have hout : ROW3.toList.take (k * 2) = (l0.take i ++ [x] ++ l0.drop i).flatMap encE := by
    have hb : j * 2 = i * 2 + (encE x).length := by show j * 2 = i * 2 + 2; omega
    have hl : j * 2 + cs1.length ≤ ROW.toList.length := by rw [hc1, Array.length_toList, hRs]; omega
    have hkk : k * 2 = j * 2 + cs1.length := by rw [hc1]; omega
    rw [hR3, hR2, List.toList_toArray, List.toList_toArray, hkk, row_two hb hl, hRt, e2]
  have hsw : w0.heap.size ≤ w.heap.size := hB.size
  have hfin : Kd.R k35 35 (W2.drew.setRow w.heap.size ROW3) w0.heap.size (fun k_ => (P0_ k_ ∨ P2_ k_ ∨ w.heap.size ≤ k_)) (.slice (some ⟨w.heap.size, 0, none⟩) k G) (l0.take i ++ [x] ++ l0.drop i) :=
    flatR_mk entM encE_len rfl e3.symm hsw (.inr (.inr (Nat.le_refl _))) (setRow_heap W2.drew _ ROW2 _ _ _ hN2) hGn hGm hR3s hout
  have hbel : Below w0.heap.size w0 (W2.drew.setRow w.heap.size ROW3) := by
    rw [hW2, hW1]
    exact below_setRow (below_drew (below_setRow (below_alloc (below_drew hB) _) hsw _)) hsw _
  have hkp : Kept w (W2.drew.setRow w.heap.size ROW3) (fun k_ => P0_ k_ ∨ P2_ k_) := by
    rw [hW2, hW1]
    exact kept_setRow (Kept.drew (kept_setRow (Kept.alloc (Kept.drew (Kept.refl w _)) _) (.inr (Nat.le_refl _)) _)) (.inr (Nat.le_refl _)) _
  have HF := Aside0.mk (And.intro hfin (And.intro hbel hkp))
  have hGi : ¬ (G = i) := by omega
  have hGj : ¬ (G = j) := by omega
  have hgt : (cap : Int) < (k : Int) := by omega
  have hiG : i ≤ G := by omega
  have hjG : j ≤ G := by omega
  have hG63 : G ≤ 9223372036854775807 := by
    have := hGm
    unfold maxLen at this
    omega
  have hj10 : i + m = j ∧ j < 10000000 ∧ n + m = k ∧ k < 10000000 ∧ k = i + (k - i) := by omega
  have hw1 : True → IntKind.i64.wrap ((i : Int) + (m : Int)) = (j : Int) := fun _ => (wI hj10.1 hj10.2.1).1
  have hw1' : True → wrap64 ((i : Int) + (m : Int)) = (j : Int) := fun _ => (wI hj10.1 hj10.2.1).2
  have hw2 : True → IntKind.i64.wrap ((n : Int) + (m : Int)) = (k : Int) := fun _ => (wI hj10.2.2.1 hj10.2.2.2.1).1
  have hw2' : True → wrap64 ((n : Int) + (m : Int)) = (k : Int) := fun _ => (wI hj10.2.2.1 hj10.2.2.2.1).2
  have hw3 : True → IntKind.i64.wrap ((k : Int) - (i : Int)) = ((k - i : Nat) : Int) := fun _ => (wS hj10.2.2.2.2 hj10.2.2.2.1).1
  have hw3' : True → wrap64 ((k : Int) - (i : Int)) = ((k - i : Nat) : Int) := fun _ => (wS hj10.2.2.2.2 hj10.2.2.2.1).2
  clear hj10 h50
  clear hB hg hg2 hs hs2 ht ht2 hcs1 hc1 hsrc hsrc2 one_e e1 e2 e3 hold hROW hRs hRt hN hO hR2 hR2s hW2 hN2 hg2' hR3 hR3s hout hfin hbel hkp hok hn hj hk hm1 hW1 hG hGm hikk zl hbw hbw2 hsw
  go_enter Try.func83, Try.ntmps83
  go_wp2_with (at_builtin; refine Lib.wpList_append_run _ rfl _ _ _ _ rfl _ _ rfl rfl _ _ (hrz.out _) ?_)
  go_region_law (refine step_copy_runI rfl (.tmp 50) (.tmp 53) 23 23 rfl (.slice (some ⟨w.heap.size, j * 2, none⟩) (k - j) (G - j)) (.slice (some ⟨g, i * 2, none⟩) (n - i) (cap - i)) (by simp [Act.eval, Act.put]) (by simp [Act.eval, Act.put]) (hcpB.out _) ?_)
  go_wp2
  go_ret
  exact ⟨_, rfl, HF.out.1, HF.out.2.1, HF.out.2.2⟩
set_option maxHeartbeats 8000000 in
set_option maxRecDepth 100000 in
theorem impl_Entry_83.calls (P0_ : Nat → Prop) (u9000_ : Value) (l0 : List (S35)) (a1 : Int) (P2_ : Nat → Prop) (u9001_ : Value) (l2 : List (S35)) (r : List (S35)) (w0 w : World) (hB : Below w0.heap.size w0 w) (ho0 : Kd.R k35 35 w w0.heap.size P0_ u9000_ l0) (hp0_2 : ∀ k_, P0_ k_ → ¬ P2_ k_) (ho2 : Kd.R k35 35 w w0.heap.size P2_ u9001_ l2) (hp2_0 : ∀ k_, P2_ k_ → ¬ P0_ k_) (h : impl_Entry_83.f l0 a1 l2 = some r) :
    Calls Try.prog 83 #[u9000_, .int .i64 a1, u9001_] w fun e w' => ∃ v0_ : Value, e = .returned (v0_) ∧ Kd.R k35 35 w' w0.heap.size (fun k_ => (P0_ k_ ∨ P2_ k_ ∨ w.heap.size ≤ k_)) v0_ r ∧ Below w0.heap.size w0 w' ∧ Kept w w' (fun k_ => P0_ k_ ∨ P2_ k_) := by
  unfold impl_Entry_83.f at h
  match l2, ho2, h with
  | [], _, h => cases h
  | _ :: _ :: _, _, h => cases h
  | [x], ho2, h =>
  simp only at h
  by_cases h0 : 0 ≤ a1
  case neg => rw [if_neg h0] at h; cases h
  rw [if_pos h0] at h
  by_cases h1 : a1 ≤ (l0.length : Int)
  case neg => rw [if_neg h1] at h; cases h
  rw [if_pos h1] at h
  by_cases h2 : l0.length < 5000000
  case neg => rw [if_neg h2] at h; cases h
  rw [if_pos h2] at h
  obtain rfl := Option.some.inj h
  clear h
  obtain ⟨i, rfl⟩ : ∃ i : Nat, a1 = (i : Int) := ⟨a1.toNat, by omega⟩
  rw [Int.toNat_natCast]
  obtain ⟨A2, c2, e2, hc2, hC2⟩ := Kd.R_reads ho2
  obtain ⟨g2, cap2, cur2, e3, hbg2, hok2, hg2, hn2, hm2, hs2, ht2⟩ := flatR_open (enc := encE) entM encE_len rfl ho2 (by simp)
  rw [e3] at e2 ⊢
  injection e2 with e4 e5 e6
  subst e4 e6
  by_cases hend : i = l0.length
  · subst hend
    rw [List.take_of_length_le (Nat.le_refl _), List.drop_of_length_le (Nat.le_refl _), List.append_nil]
    exact impl_Entry_83.atEnd l0 [x] w0 w P0_ P2_ _ g2 cap2 hB ho0 rfl hC2 h2
  · have hin : i < l0.length := by omega
    obtain ⟨g, cap, cur, rfl, hbg, hok, hg, hnc, hm, hs, ht⟩ := flatR_open (enc := encE) entM encE_len rfl ho0 (by omega)
    have hne : g2 ≠ g := fun e => hp0_2 g hok (e ▸ hok2)
    have ht2' : cur2.toList.take (1 * 2) = encE x := by
      rw [List.flatMap_cons, List.flatMap_nil, List.append_nil] at ht2
      exact ht2
    by_cases hroom : l0.length + 1 ≤ cap
    · exact impl_Entry_83.shift l0 x w0 w P0_ P2_ g cap g2 cap2 i l0.length 1 (i + 1) (l0.length + 1) cur cur2 hB hbg hok hne hg hm hs ht hg2 hs2 hn2 ht2' rfl rfl hin hnc rfl rfl h2 hroom
    · exact impl_Entry_83.grow l0 x w0 w P0_ P2_ g cap g2 cap2 i l0.length 1 (i + 1) (l0.length + 1) cur cur2 hB hbg hok hne hg hm hs ht hg2 hs2 hn2 ht2' rfl rfl hin hnc rfl rfl h2 (by omega)
end Go.Proofs.Ytkmjmgkpcomldaa.Q
end

section
namespace Go.Proofs.Ytkmjmgkpcomldaa.Q
open Go.RowKit Go.Proofs.YtkmjmgkpcomldaaW.PrintWords Go.Proofs.YtkmjmgkpcomldaaW.PrintLast Go.Proofs.YtkmjmgkpcomldaaW.PrintMore
attribute [local go_sem] max2_int min2_int max_two min_two max_three min_three max_four min_four   -- for this text's walks alone
set_option linter.unusedVariables false
set_option linter.unusedSimpArgs false
attribute [local go_sem] bin_leq bin_gtr bin_geq
def impl_edited.l0 : Nat → List (S35) → List (S66) → Int → Int → Option ((List (S35)))
  | 0, _, _, _, _ => none
  | k + 1, x5, x12, x13, x14 => if x14 < x13 then (if 0 ≤ x14 then (if x14 < (x12.length : Int) then ((impl_find.f x5 ((rd_T66 x12 x14).f0)).bind fun bt203 => (if bt203.2 = true then ((impl_Entry_82.f x5 bt203.1 (wrap64 (bt203.1 + 1))).bind fun t205 => (if ((rd_T66 x12 x14).f2 = true) then (impl_edited.l0 k t205 x12 x13 (wrap64 (x14 + 1))) else ((impl_Entry_83.f t205 bt203.1 (([(⟨(rd_T66 x12 x14).f0, (rd_T66 x12 x14).f1⟩ : S35)] : List (S35)))).bind fun t211 => (impl_edited.l0 k t211 x12 x13 (wrap64 (x14 + 1)))))) else (if ((rd_T66 x12 x14).f2 = true) then (impl_edited.l0 k x5 x12 x13 (wrap64 (x14 + 1))) else ((impl_Entry_83.f x5 bt203.1 (([(⟨(rd_T66 x12 x14).f0, (rd_T66 x12 x14).f1⟩ : S35)] : List (S35)))).bind fun t217 => (impl_edited.l0 k t217 x12 x13 (wrap64 (x14 + 1))))))) else (none)) else (none)) else (some x5)
def impl_edited.f (k : Nat) (l0 : List (S35)) (l1 : List (S66)) : Option ((List (S35))) := (impl_Entry_47.f l0).bind fun t198 => (impl_edited.l0 k t198 l1 (l1.length : Int) 0)
set_option maxHeartbeats 8000000 in
set_option maxRecDepth 100000 in
theorem impl_edited.calls (k : Nat) (A0 : Option Addr) (c0 : Nat) (l0 : List (S35)) (A1 : Option Addr) (c1 : Nat) (l1 : List (S66)) (r : List (S35)) (w : World) (hr0 : Kd.C k35 w A0 l0.length l0) (hc0 : l0.length ≤ c0) (hr1 : Kd.C k66 w A1 l1.length l1) (hc1 : l1.length ≤ c1) (h : impl_edited.f k l0 l1 = some r) :
    Calls Try.prog 42 #[.slice A0 l0.length c0, .slice A1 l1.length c1] w fun e w' => ∃ v0_ : Value, e = .returned (v0_) ∧ Kd.R k35 35 w' w.heap.size (fun _ => True) v0_ r ∧ Below w.heap.size w w' := by
  have hu66 := Try.underlying66
  have hu35 := Try.underlying35
  have HR0 := Aside0.mk hr0
  have HC0 := Aside0.mk hc0
  clear hr0 hc0
  have HR1 := Aside0.mk hr1
  have HC1 := Aside0.mk hc1
  clear hr1 hc1
  have HB := Aside0.mk (Below.refl w.heap.size w)
  have H : ((impl_Entry_47.f l0).bind fun t198 => (impl_edited.l0 k t198 l1 (l1.length : Int) 0)) = some r := h
  clear h
  replace H := Option.bind_eq_some_iff.mp H
  obtain ⟨t198, A30, H⟩ := H
  replace H : (impl_edited.l0 k t198 l1 (l1.length : Int) 0) = some r := H
  have A3 := Aside0.mk A30
  clear A30
  have H' := Aside0.mk H
  clear H
  go_enter Try.func42, Try.ntmps42
  go_wp2_with (((with_reducible refine gate_callee (f := 47) rfl ?_); refine goesL_ (some 11) rfl rfl Try.func47 (by kernel_rfl) rfl #[.slice A0 l0.length c0] rfl gA ?_; (with_reducible refine (impl_Entry_47.calls _ _ l0 t198 _ ?side1 ?side2 A3.out).mono ?_); (case side1 => exact cN HR0); (case side2 => exact HC0.out); rintro e w4 ⟨v199, rfl, ho0, hb⟩; refine ⟨_, rfl, ?_⟩; have n0_ := Aside0.mk (Kd.R_lower ho0 (below_size (w := w) bW)); have n1_ := Aside0.mk (below_step (w := w) bW hb); clear HB; have HO200 := n0_; have HB := n1_; clear n0_ n1_; (try clear hb); (try clear ho0)))
  go_loopg [5, 14] k (fun kq v5 v14 w' => ∃ (x5_1 : List (S35)) (x14_1 : Int), v14 = .int .i64 x14_1 ∧ Aside0 (impl_edited.l0 kq x5_1 l1 (l1.length : Int) x14_1 = some r) ∧ Aside0 (kq ≤ k) ∧ Aside0 (Kd.R k35 35 w' w.heap.size (fun _ => True) v5 x5_1) ∧ Aside0 (Below w.heap.size w w'))
  case atStart => exact ⟨(t198), (0), vE, H', ⟨Nat.le_refl _⟩, ⟨by exact HO200.out⟩, ⟨bW⟩⟩
  case round =>
    clear H'
    obtain ⟨x5_1, x14_1, rfl, HA, HK1, HO_5, HB⟩ := hrel
    cases gk with
    | zero => exact absurd HA.out (by simp [impl_edited.l0])
    | succ k1 =>
      have H := HA.out
      clear HA
      simp only [impl_edited.l0] at H
      by_cases c5 : x14_1 < (l1.length : Int)
      · rw [if_pos c5] at H
        have c5b0 : decide (x14_1 < (l1.length : Int)) = true := decide_eq_true c5
        clear c5
        by_cases c6 : 0 ≤ x14_1
        · rw [if_pos c6] at H
          have c6b0 : decide (0 ≤ x14_1) = true := decide_eq_true c6
          clear c6
          by_cases c7 : x14_1 < (l1.length : Int)
          · rw [if_pos c7] at H
            have c7b0 : decide (x14_1 < (l1.length : Int)) = true := decide_eq_true c7
            clear c7
            replace H := Option.bind_eq_some_iff.mp H
            obtain ⟨⟨t203, t204⟩, A80, H⟩ := H
            replace H : (if t204 = true then ((impl_Entry_82.f x5_1 t203 (wrap64 (t203 + 1))).bind fun t205 => (if ((rd_T66 l1 x14_1).f2 = true) then (impl_edited.l0 k1 t205 l1 (l1.length : Int) (wrap64 (x14_1 + 1))) else ((impl_Entry_83.f t205 t203 (([(⟨(rd_T66 l1 x14_1).f0, (rd_T66 l1 x14_1).f1⟩ : S35)] : List (S35)))).bind fun t211 => (impl_edited.l0 k1 t211 l1 (l1.length : Int) (wrap64 (x14_1 + 1)))))) else (if ((rd_T66 l1 x14_1).f2 = true) then (impl_edited.l0 k1 x5_1 l1 (l1.length : Int) (wrap64 (x14_1 + 1))) else ((impl_Entry_83.f x5_1 t203 (([(⟨(rd_T66 l1 x14_1).f0, (rd_T66 l1 x14_1).f1⟩ : S35)] : List (S35)))).bind fun t217 => (impl_edited.l0 k1 t217 l1 (l1.length : Int) (wrap64 (x14_1 + 1)))))) = some r := H
            have A8 := Aside0.mk A80
            clear A80
            by_cases c9 : t204 = true
            · subst c9
              have H1 : ((impl_Entry_82.f x5_1 t203 (wrap64 (t203 + 1))).bind fun t205 => (if ((rd_T66 l1 x14_1).f2 = true) then (impl_edited.l0 k1 t205 l1 (l1.length : Int) (wrap64 (x14_1 + 1))) else ((impl_Entry_83.f t205 t203 (([(⟨(rd_T66 l1 x14_1).f0, (rd_T66 l1 x14_1).f1⟩ : S35)] : List (S35)))).bind fun t211 => (impl_edited.l0 k1 t211 l1 (l1.length : Int) (wrap64 (x14_1 + 1)))))) = some r := by rw [if_pos rfl] at H; exact H
              clear H
              have H := H1
              clear H1
              replace H := Option.bind_eq_some_iff.mp H
              obtain ⟨t205, A100, H⟩ := H
              replace H : (if ((rd_T66 l1 x14_1).f2 = true) then (impl_edited.l0 k1 t205 l1 (l1.length : Int) (wrap64 (x14_1 + 1))) else ((impl_Entry_83.f t205 t203 (([(⟨(rd_T66 l1 x14_1).f0, (rd_T66 l1 x14_1).f1⟩ : S35)] : List (S35)))).bind fun t211 => (impl_edited.l0 k1 t211 l1 (l1.length : Int) (wrap64 (x14_1 + 1))))) = some r := H
              have A10 := Aside0.mk A100
              clear A100
              obtain ⟨bq11, hbq11⟩ : ∃ b_ : Bool, b_ = ((rd_T66 l1 x14_1).f2) := ⟨_, rfl⟩
              replace H : (if (bq11 = true) then (impl_edited.l0 k1 t205 l1 (l1.length : Int) (wrap64 (x14_1 + 1))) else ((impl_Entry_83.f t205 t203 (([(⟨(rd_T66 l1 x14_1).f0, (rd_T66 l1 x14_1).f1⟩ : S35)] : List (S35)))).bind fun t211 => (impl_edited.l0 k1 t211 l1 (l1.length : Int) (wrap64 (x14_1 + 1))))) = some r := by rw [← hbq11] at H; exact H
              have Nbq11 := Aside0.mk hbq11
              clear hbq11
              by_cases c12 : (bq11 = true)
              · subst c12
                have H1 : (impl_edited.l0 k1 t205 l1 (l1.length : Int) (wrap64 (x14_1 + 1))) = some r := by rw [if_pos rfl] at H; exact H
                clear H
                have H := H1
                clear H1
                have H' := Aside0.mk H
                clear H
                have p201 : 0 ≤ (x14_1 : Int) := odt
                have q201 : x14_1 < (l1.length : Int) := odt
                obtain ⟨ad201, e201, hx201_0, hx201_1, hx201_2⟩ := at_T66 HR1.out x14_1 p201 q201
                (try rw [← Nbq11.out] at hx201_2)
                cases e201
                replace hx201_0 := (HB.out.cell (World.block_lt_of_cell? w _ hx201_0)).trans hx201_0
                replace hx201_1 := (HB.out.cell (World.block_lt_of_cell? w _ hx201_1)).trans hx201_1
                replace hx201_2 := (HB.out.cell (World.block_lt_of_cell? w _ hx201_2)).trans hx201_2
                replace p201 := eq_true p201
                replace q201 := eq_true q201
                go_wp2_with (first | ((with_reducible refine gate_dst (N := 7) rfl ?_); refine bE (N := 7) (cs := #[.string (⟨#[]⟩ : ByteArray), .int .i64 0, .bool false]) (t := 66) ?_; intro gb202 hg w13 hbox hb; have n0_ := Aside0.mk (Kd.R_below (pR HO_5) hb); have n1_ := Aside0.mk (below_step (w := w) bW hb); have n2_ := Aside0.mk (hbox); have n3_ := Aside0.mk (gS (w := w) hg); have n4_ := n3_; clear HO_5; clear HB; have HO_5 := n0_; have HB := n1_; have BK202 := n2_; have GW202 := n3_; have GE202 := n4_; clear n0_ n1_ n2_ n3_ n4_; clear hb hbox hg; obtain ⟨hcz14_0, hcz14_1, hcz14_2⟩ := cz3 BK202; obtain ⟨hfz14_0, hfz14_1, hfz14_2⟩ := fz3 BK202; obtain ⟨Ao15, co15, eo15⟩ := Kd.R_slice HO_5.out; subst eo15) | ((with_reducible refine gate_callee (f := 46) rfl ?_); refine goesL_ (some 22) rfl rfl Try.func46 (by kernel_rfl) rfl #[.slice Ao15 x5_1.length co15, .string ((rd_T66 l1 x14_1).f0)] rfl gA ?_; (with_reducible refine (impl_find.calls _ _ x5_1 ((rd_T66 l1 x14_1).f0) t203 true _ ?side1 ?side2 A8.out).mono ?_); (case side1 => refine (Kd.R_reads' (e := 35) (base := w.heap.size) (ok := fun k_ => True) (n := x5_1.length) (c := co15) ?_).2.2; exact (by exact (Kd.R_mono (Kd.R_far (p := ⟨gb202, 2, none⟩) (Kd.R_far (p := ⟨gb202, 1, none⟩) (Kd.R_far (p := ⟨gb202, 0, none⟩) (Kd.R_types HO_5.out BK202.out (by decide)) (fun _ hk => hk.2) (.string ((rd_T66 l1 x14_1).f0))) (fun _ hk => hk.2) (.int .i64 ((rd_T66 l1 x14_1).f1))) (fun _ hk => hk.2) (.bool true)) (fun _ h_ => h_.1)))); (case side2 => exact (Kd.R_reads' HO_5.out).2.1); rintro e w16 ⟨rfl, hb⟩; refine ⟨_, rfl, ?_⟩; have n0_ := Aside0.mk (Kd.R_below (by exact (Kd.R_mono (Kd.R_far (p := ⟨gb202, 2, none⟩) (Kd.R_far (p := ⟨gb202, 1, none⟩) (Kd.R_far (p := ⟨gb202, 0, none⟩) (Kd.R_types HO_5.out BK202.out (by decide)) (fun _ hk => hk.2) (.string ((rd_T66 l1 x14_1).f0))) (fun _ hk => hk.2) (.int .i64 ((rd_T66 l1 x14_1).f1))) (fun _ hk => hk.2) (.bool true)) (fun _ h_ => h_.1))) hb); have n1_ := Aside0.mk (blk_below (g := gb202) (o := .cells #[.string ((rd_T66 l1 x14_1).f0), .int .i64 ((rd_T66 l1 x14_1).f1), .bool true] 66 (0, 0)) (by refine blk_put (cs := #[.string ((rd_T66 l1 x14_1).f0), .int .i64 ((rd_T66 l1 x14_1).f1), .bool false]) ?_ 2 _ rfl; refine blk_put (cs := #[.string ((rd_T66 l1 x14_1).f0), .int .i64 0, .bool false]) ?_ 1 _ rfl; refine blk_put (cs := #[.string (⟨#[]⟩ : ByteArray), .int .i64 0, .bool false]) ?_ 0 _ rfl; exact BK202.out) hb); have n2_ := Aside0.mk (below_step (w := w) bW hb); clear HO_5; clear BK202; clear HB; have HO_5 := n0_; have BK202 := n1_; have HB := n2_; clear n0_ n1_ n2_; (try clear hb)) | ((with_reducible refine gate_callee (f := 82) rfl ?_); refine goesL_ (some 30) rfl rfl Try.func82 (by kernel_rfl) rfl #[.slice Ao15 x5_1.length co15, .int .i64 t203, .int .i64 (wrap64 (t203 + 1))] rfl gA ?_; (with_reducible refine (impl_Entry_82.calls (fun k_ => some k_ = (.slice Ao15 x5_1.length co15 : Value).ownBlock) (.slice Ao15 x5_1.length co15) x5_1 t203 (wrap64 (t203 + 1)) t205 w _ ?side1 ?side2 A10.out).mono ?_); (case side1 => repeat ((with_reducible exact HB.out))); (case side2 => exact Kd.R_tight rfl HO_5.out); rintro e w17 ⟨v206, rfl, ho0, hb, hkp⟩; refine ⟨_, rfl, ?_⟩; have n0_ := Aside0.mk (blk_kept (kB BK202) hkp (fun hs_ => (fun e_ => (Kd.R_ne HO_5.out BK202.out (by decide)) e_) hs_)); have n1_ := Aside0.mk (Kd.R_mono (ok' := fun k_ => True) ho0 (fun k_ hk_ => trivial)); have n2_ := Aside0.mk (hb); clear BK202; clear HB; clear HO_5; have BK202 := n0_; have HO207 := n1_; have HB := n2_; clear n0_ n1_ n2_; (try clear hb); (try clear hkp); (try clear ho0); obtain ⟨hcz18_0, hcz18_1, hcz18_2⟩ := cz3 BK202; obtain ⟨hfz18_0, hfz18_1, hfz18_2⟩ := fz3 BK202))
                go_roundg k1
                case measure => have := HK1.out; omega
                case rel => exact ⟨(t205), (wrap64 (x14_1 + 1)), vE, H', ⟨by have := HK1.out; omega⟩, ⟨by exact HO207.out⟩, ⟨bW⟩⟩
              · replace c12 := Bool.eq_false_iff.mpr c12
                subst c12
                have H1 : ((impl_Entry_83.f t205 t203 (([(⟨(rd_T66 l1 x14_1).f0, (rd_T66 l1 x14_1).f1⟩ : S35)] : List (S35)))).bind fun t211 => (impl_edited.l0 k1 t211 l1 (l1.length : Int) (wrap64 (x14_1 + 1)))) = some r := by rw [if_neg (show ¬ (false = true) by decide)] at H; exact H
                clear H
                have H := H1
                clear H1
                obtain ⟨y208, hy208⟩ : ∃ y_ : List (S35), y_ = (([(⟨(rd_T66 l1 x14_1).f0, (rd_T66 l1 x14_1).f1⟩ : S35)] : List (S35))) := ⟨_, rfl⟩
                replace H : ((impl_Entry_83.f t205 t203 y208).bind fun t211 => (impl_edited.l0 k1 t211 l1 (l1.length : Int) (wrap64 (x14_1 + 1)))) = some r := by (rw [hy208]; with_reducible exact H)
                have Ny208 := Aside0.mk hy208
                clear hy208
                replace H := Option.bind_eq_some_iff.mp H
                obtain ⟨t211, A190, H⟩ := H
                replace H : (impl_edited.l0 k1 t211 l1 (l1.length : Int) (wrap64 (x14_1 + 1))) = some r := H
                have A19 := Aside0.mk A190
                clear A190
                have H' := Aside0.mk H
                clear H
                have p201 : 0 ≤ (x14_1 : Int) := odt
                have q201 : x14_1 < (l1.length : Int) := odt
                obtain ⟨ad201, e201, hx201_0, hx201_1, hx201_2⟩ := at_T66 HR1.out x14_1 p201 q201
                (try rw [← Nbq11.out] at hx201_2)
                cases e201
                replace hx201_0 := (HB.out.cell (World.block_lt_of_cell? w _ hx201_0)).trans hx201_0
                replace hx201_1 := (HB.out.cell (World.block_lt_of_cell? w _ hx201_1)).trans hx201_1
                replace hx201_2 := (HB.out.cell (World.block_lt_of_cell? w _ hx201_2)).trans hx201_2
                replace p201 := eq_true p201
                replace q201 := eq_true q201
                go_wp2_with (first | ((with_reducible refine gate_dst (N := 7) rfl ?_); refine bE (N := 7) (cs := #[.string (⟨#[]⟩ : ByteArray), .int .i64 0, .bool false]) (t := 66) ?_; intro gb202 hg w20 hbox hb; have n0_ := Aside0.mk (Kd.R_below (pR HO_5) hb); have n1_ := Aside0.mk (below_step (w := w) bW hb); have n2_ := Aside0.mk (hbox); have n3_ := Aside0.mk (gS (w := w) hg); have n4_ := n3_; clear HO_5; clear HB; have HO_5 := n0_; have HB := n1_; have BK202 := n2_; have GW202 := n3_; have GE202 := n4_; clear n0_ n1_ n2_ n3_ n4_; clear hb hbox hg; obtain ⟨hcz21_0, hcz21_1, hcz21_2⟩ := cz3 BK202; obtain ⟨hfz21_0, hfz21_1, hfz21_2⟩ := fz3 BK202; obtain ⟨Ao22, co22, eo22⟩ := Kd.R_slice HO_5.out; subst eo22) | ((with_reducible refine gate_callee (f := 46) rfl ?_); refine goesL_ (some 22) rfl rfl Try.func46 (by kernel_rfl) rfl #[.slice Ao22 x5_1.length co22, .string ((rd_T66 l1 x14_1).f0)] rfl gA ?_; (with_reducible refine (impl_find.calls _ _ x5_1 ((rd_T66 l1 x14_1).f0) t203 true _ ?side1 ?side2 A8.out).mono ?_); (case side1 => refine (Kd.R_reads' (e := 35) (base := w.heap.size) (ok := fun k_ => True) (n := x5_1.length) (c := co22) ?_).2.2; exact (by exact (Kd.R_mono (Kd.R_far (p := ⟨gb202, 2, none⟩) (Kd.R_far (p := ⟨gb202, 1, none⟩) (Kd.R_far (p := ⟨gb202, 0, none⟩) (Kd.R_types HO_5.out BK202.out (by decide)) (fun _ hk => hk.2) (.string ((rd_T66 l1 x14_1).f0))) (fun _ hk => hk.2) (.int .i64 ((rd_T66 l1 x14_1).f1))) (fun _ hk => hk.2) (.bool false)) (fun _ h_ => h_.1)))); (case side2 => exact (Kd.R_reads' HO_5.out).2.1); rintro e w23 ⟨rfl, hb⟩; refine ⟨_, rfl, ?_⟩; have n0_ := Aside0.mk (Kd.R_below (by exact (Kd.R_mono (Kd.R_far (p := ⟨gb202, 2, none⟩) (Kd.R_far (p := ⟨gb202, 1, none⟩) (Kd.R_far (p := ⟨gb202, 0, none⟩) (Kd.R_types HO_5.out BK202.out (by decide)) (fun _ hk => hk.2) (.string ((rd_T66 l1 x14_1).f0))) (fun _ hk => hk.2) (.int .i64 ((rd_T66 l1 x14_1).f1))) (fun _ hk => hk.2) (.bool false)) (fun _ h_ => h_.1))) hb); have n1_ := Aside0.mk (blk_below (g := gb202) (o := .cells #[.string ((rd_T66 l1 x14_1).f0), .int .i64 ((rd_T66 l1 x14_1).f1), .bool false] 66 (0, 0)) (by refine blk_put (cs := #[.string ((rd_T66 l1 x14_1).f0), .int .i64 ((rd_T66 l1 x14_1).f1), .bool false]) ?_ 2 _ rfl; refine blk_put (cs := #[.string ((rd_T66 l1 x14_1).f0), .int .i64 0, .bool false]) ?_ 1 _ rfl; refine blk_put (cs := #[.string (⟨#[]⟩ : ByteArray), .int .i64 0, .bool false]) ?_ 0 _ rfl; exact BK202.out) hb); have n2_ := Aside0.mk (below_step (w := w) bW hb); clear HO_5; clear BK202; clear HB; have HO_5 := n0_; have BK202 := n1_; have HB := n2_; clear n0_ n1_ n2_; (try clear hb)) | ((with_reducible refine gate_callee (f := 82) rfl ?_); refine goesL_ (some 30) rfl rfl Try.func82 (by kernel_rfl) rfl #[.slice Ao22 x5_1.length co22, .int .i64 t203, .int .i64 (wrap64 (t203 + 1))] rfl gA ?_; (with_reducible refine (impl_Entry_82.calls (fun k_ => some k_ = (.slice Ao22 x5_1.length co22 : Value).ownBlock) (.slice Ao22 x5_1.length co22) x5_1 t203 (wrap64 (t203 + 1)) t205 w _ ?side1 ?side2 A10.out).mono ?_); (case side1 => repeat ((with_reducible exact HB.out))); (case side2 => exact Kd.R_tight rfl HO_5.out); rintro e w24 ⟨v206, rfl, ho0, hb, hkp⟩; refine ⟨_, rfl, ?_⟩; have n0_ := Aside0.mk (blk_kept (kB BK202) hkp (fun hs_ => (fun e_ => (Kd.R_ne HO_5.out BK202.out (by decide)) e_) hs_)); have n1_ := Aside0.mk (Kd.R_mono (ok' := fun k_ => True) ho0 (fun k_ hk_ => trivial)); have n2_ := Aside0.mk (hb); clear BK202; clear HB; clear HO_5; have BK202 := n0_; have HO207 := n1_; have HB := n2_; clear n0_ n1_ n2_; (try clear hb); (try clear hkp); (try clear ho0); obtain ⟨hcz25_0, hcz25_1, hcz25_2⟩ := cz3 BK202; obtain ⟨hfz25_0, hfz25_1, hfz25_2⟩ := fz3 BK202) | ((with_reducible refine gate_dst (N := 41) rfl ?_); refine Kd.R_lit k35 _ 35 ?hg (N := 41) ?hd (xs := ([(⟨(rd_T66 l1 x14_1).f0, (rd_T66 l1 x14_1).f1⟩ : S35)] : List (S35))) (inner := [.string ((rd_T66 l1 x14_1).f0), .int .i64 ((rd_T66 l1 x14_1).f1)]) (ok := fun _ => True) (okp := fun _ => True) ?hr ?hp (fun _ hk => hk) trivial (Below.refl _ _) (Nat.le_refl _) (by simp) ?_; (case hd => rfl); (case hg => rfl); (case hr => (go_simp; done)); (case hp => exact (Reps.c2 (show Kd.M k35 _ _ _ (⟨(rd_T66 l1 x14_1).f0, (rd_T66 l1 x14_1).f1⟩ : S35) [.string ((rd_T66 l1 x14_1).f0), .int .i64 ((rd_T66 l1 x14_1).f1)] from (k35_mkM _ _ _ (⟨(rd_T66 l1 x14_1).f0, (rd_T66 l1 x14_1).f1⟩ : S35) )) (Reps.none _ _))); intro v209 w26 ho27 hb hg_ hnew_; clear hg_ hnew_; (rw [← Ny208.out] at ho27); have n0_ := Aside0.mk (Kd.R_elder' (pR HO207) (Kd.R_base ho27) hb); have n1_ := Aside0.mk (Kd.R_lower (Kd.R_new' ho27 (Kd.R_lt (pR HO207))) (below_size (w := w) bW)); have n2_ := Aside0.mk (kb BK202 hb); have n3_ := Aside0.mk (below_step (w := w) bW hb); clear HO207; clear BK202; clear HB; have HO207 := n0_; have HO210 := n1_; have BK202 := n2_; have HB := n3_; clear n0_ n1_ n2_ n3_; clear hb ho27; obtain ⟨Ao28, co28, eo28⟩ := Kd.R_slice HO207.out; subst eo28; obtain ⟨Ao29, co29, eo29⟩ := Kd.R_slice HO210.out; subst eo29) | ((with_reducible refine gate_callee (f := 83) rfl ?_); refine goesL_ (some 42) rfl rfl Try.func83 (by kernel_rfl) rfl #[.slice Ao28 t205.length co28, .int .i64 t203, .slice Ao29 y208.length co29] rfl gA ?_; (with_reducible refine (impl_Entry_83.calls (fun k_ => some k_ = (.slice Ao28 t205.length co28 : Value).ownBlock) (.slice Ao28 t205.length co28) t205 t203 (fun k_ => some k_ = (.slice Ao29 y208.length co29 : Value).ownBlock) (.slice Ao29 y208.length co29) y208 t211 w _ ?side1 ?side2 ?side3 ?side4 ?side5 A19.out).mono ?_); (case side1 => repeat ((with_reducible exact HB.out))); (case side2 => exact Kd.R_tight rfl HO207.out); (case side3 => exact fun k_ e_ => (HO207.out.1 k_ e_.symm).2); (case side4 => exact Kd.R_tight rfl HO210.out); (case side5 => exact fun k_ e_ => (HO210.out.1 k_ e_.symm).2); rintro e w30 ⟨v212, rfl, ho0, hb, hkp⟩; refine ⟨_, rfl, ?_⟩; have n0_ := Aside0.mk (blk_kept (kB BK202) hkp (fun hs_ => Or.elim hs_ (fun e_ => (fun e_ => (Kd.R_ne HO207.out BK202.out (by decide)) e_) e_) (fun e_ => (fun e_ => (Kd.R_ne HO210.out BK202.out (by decide)) e_) e_))); have n1_ := Aside0.mk (Kd.R_mono (ok' := fun k_ => True) ho0 (fun k_ hk_ => trivial)); have n2_ := Aside0.mk (hb); clear BK202; clear HB; clear HO207; clear HO210; have BK202 := n0_; have HO213 := n1_; have HB := n2_; clear n0_ n1_ n2_; (try clear hb); (try clear hkp); (try clear ho0)))
                go_roundg k1
                case measure => have := HK1.out; omega
                case rel => exact ⟨(t211), (wrap64 (x14_1 + 1)), vE, H', ⟨by have := HK1.out; omega⟩, ⟨by exact HO213.out⟩, ⟨bW⟩⟩
            · replace c9 := Bool.eq_false_iff.mpr c9
              subst c9
              have H1 : (if ((rd_T66 l1 x14_1).f2 = true) then (impl_edited.l0 k1 x5_1 l1 (l1.length : Int) (wrap64 (x14_1 + 1))) else ((impl_Entry_83.f x5_1 t203 (([(⟨(rd_T66 l1 x14_1).f0, (rd_T66 l1 x14_1).f1⟩ : S35)] : List (S35)))).bind fun t217 => (impl_edited.l0 k1 t217 l1 (l1.length : Int) (wrap64 (x14_1 + 1))))) = some r := by rw [if_neg (show ¬ (false = true) by decide)] at H; exact H
              clear H
              have H := H1
              clear H1
              obtain ⟨bq31, hbq31⟩ : ∃ b_ : Bool, b_ = ((rd_T66 l1 x14_1).f2) := ⟨_, rfl⟩
              replace H : (if (bq31 = true) then (impl_edited.l0 k1 x5_1 l1 (l1.length : Int) (wrap64 (x14_1 + 1))) else ((impl_Entry_83.f x5_1 t203 (([(⟨(rd_T66 l1 x14_1).f0, (rd_T66 l1 x14_1).f1⟩ : S35)] : List (S35)))).bind fun t217 => (impl_edited.l0 k1 t217 l1 (l1.length : Int) (wrap64 (x14_1 + 1))))) = some r := by rw [← hbq31] at H; exact H
              have Nbq31 := Aside0.mk hbq31
              clear hbq31
              by_cases c32 : (bq31 = true)
              · subst c32
                have H1 : (impl_edited.l0 k1 x5_1 l1 (l1.length : Int) (wrap64 (x14_1 + 1))) = some r := by rw [if_pos rfl] at H; exact H
                clear H
                have H := H1
                clear H1
                have H' := Aside0.mk H
                clear H
                have p201 : 0 ≤ (x14_1 : Int) := odt
                have q201 : x14_1 < (l1.length : Int) := odt
                obtain ⟨ad201, e201, hx201_0, hx201_1, hx201_2⟩ := at_T66 HR1.out x14_1 p201 q201
                (try rw [← Nbq31.out] at hx201_2)
                cases e201
                replace hx201_0 := (HB.out.cell (World.block_lt_of_cell? w _ hx201_0)).trans hx201_0
                replace hx201_1 := (HB.out.cell (World.block_lt_of_cell? w _ hx201_1)).trans hx201_1
                replace hx201_2 := (HB.out.cell (World.block_lt_of_cell? w _ hx201_2)).trans hx201_2
                replace p201 := eq_true p201
                replace q201 := eq_true q201
                go_wp2_with (first | ((with_reducible refine gate_dst (N := 7) rfl ?_); refine bE (N := 7) (cs := #[.string (⟨#[]⟩ : ByteArray), .int .i64 0, .bool false]) (t := 66) ?_; intro gb202 hg w33 hbox hb; have n0_ := Aside0.mk (Kd.R_below (pR HO_5) hb); have n1_ := Aside0.mk (below_step (w := w) bW hb); have n2_ := Aside0.mk (hbox); have n3_ := Aside0.mk (gS (w := w) hg); have n4_ := n3_; clear HO_5; clear HB; have HO_5 := n0_; have HB := n1_; have BK202 := n2_; have GW202 := n3_; have GE202 := n4_; clear n0_ n1_ n2_ n3_ n4_; clear hb hbox hg; obtain ⟨hcz34_0, hcz34_1, hcz34_2⟩ := cz3 BK202; obtain ⟨hfz34_0, hfz34_1, hfz34_2⟩ := fz3 BK202; obtain ⟨Ao35, co35, eo35⟩ := Kd.R_slice HO_5.out; subst eo35) | ((with_reducible refine gate_callee (f := 46) rfl ?_); refine goesL_ (some 22) rfl rfl Try.func46 (by kernel_rfl) rfl #[.slice Ao35 x5_1.length co35, .string ((rd_T66 l1 x14_1).f0)] rfl gA ?_; (with_reducible refine (impl_find.calls _ _ x5_1 ((rd_T66 l1 x14_1).f0) t203 false _ ?side1 ?side2 A8.out).mono ?_); (case side1 => refine (Kd.R_reads' (e := 35) (base := w.heap.size) (ok := fun k_ => True) (n := x5_1.length) (c := co35) ?_).2.2; exact (by exact (Kd.R_mono (Kd.R_far (p := ⟨gb202, 2, none⟩) (Kd.R_far (p := ⟨gb202, 1, none⟩) (Kd.R_far (p := ⟨gb202, 0, none⟩) (Kd.R_types HO_5.out BK202.out (by decide)) (fun _ hk => hk.2) (.string ((rd_T66 l1 x14_1).f0))) (fun _ hk => hk.2) (.int .i64 ((rd_T66 l1 x14_1).f1))) (fun _ hk => hk.2) (.bool true)) (fun _ h_ => h_.1)))); (case side2 => exact (Kd.R_reads' HO_5.out).2.1); rintro e w36 ⟨rfl, hb⟩; refine ⟨_, rfl, ?_⟩; have n0_ := Aside0.mk (Kd.R_below (by exact (Kd.R_mono (Kd.R_far (p := ⟨gb202, 2, none⟩) (Kd.R_far (p := ⟨gb202, 1, none⟩) (Kd.R_far (p := ⟨gb202, 0, none⟩) (Kd.R_types HO_5.out BK202.out (by decide)) (fun _ hk => hk.2) (.string ((rd_T66 l1 x14_1).f0))) (fun _ hk => hk.2) (.int .i64 ((rd_T66 l1 x14_1).f1))) (fun _ hk => hk.2) (.bool true)) (fun _ h_ => h_.1))) hb); have n1_ := Aside0.mk (blk_below (g := gb202) (o := .cells #[.string ((rd_T66 l1 x14_1).f0), .int .i64 ((rd_T66 l1 x14_1).f1), .bool true] 66 (0, 0)) (by refine blk_put (cs := #[.string ((rd_T66 l1 x14_1).f0), .int .i64 ((rd_T66 l1 x14_1).f1), .bool false]) ?_ 2 _ rfl; refine blk_put (cs := #[.string ((rd_T66 l1 x14_1).f0), .int .i64 0, .bool false]) ?_ 1 _ rfl; refine blk_put (cs := #[.string (⟨#[]⟩ : ByteArray), .int .i64 0, .bool false]) ?_ 0 _ rfl; exact BK202.out) hb); have n2_ := Aside0.mk (below_step (w := w) bW hb); clear HO_5; clear BK202; clear HB; have HO_5 := n0_; have BK202 := n1_; have HB := n2_; clear n0_ n1_ n2_; (try clear hb); obtain ⟨hcz37_0, hcz37_1, hcz37_2⟩ := cz3 BK202; obtain ⟨hfz37_0, hfz37_1, hfz37_2⟩ := fz3 BK202))
                go_roundg k1
                case measure => have := HK1.out; omega
                case rel => exact ⟨(x5_1), (wrap64 (x14_1 + 1)), vE, H', ⟨by have := HK1.out; omega⟩, ⟨by exact HO_5.out⟩, ⟨bW⟩⟩
              · replace c32 := Bool.eq_false_iff.mpr c32
                subst c32
                have H1 : ((impl_Entry_83.f x5_1 t203 (([(⟨(rd_T66 l1 x14_1).f0, (rd_T66 l1 x14_1).f1⟩ : S35)] : List (S35)))).bind fun t217 => (impl_edited.l0 k1 t217 l1 (l1.length : Int) (wrap64 (x14_1 + 1)))) = some r := by rw [if_neg (show ¬ (false = true) by decide)] at H; exact H
                clear H
                have H := H1
                clear H1
                obtain ⟨y214, hy214⟩ : ∃ y_ : List (S35), y_ = (([(⟨(rd_T66 l1 x14_1).f0, (rd_T66 l1 x14_1).f1⟩ : S35)] : List (S35))) := ⟨_, rfl⟩
                replace H : ((impl_Entry_83.f x5_1 t203 y214).bind fun t217 => (impl_edited.l0 k1 t217 l1 (l1.length : Int) (wrap64 (x14_1 + 1)))) = some r := by (rw [hy214]; with_reducible exact H)
                have Ny214 := Aside0.mk hy214
                clear hy214
                replace H := Option.bind_eq_some_iff.mp H
                obtain ⟨t217, A380, H⟩ := H
                replace H : (impl_edited.l0 k1 t217 l1 (l1.length : Int) (wrap64 (x14_1 + 1))) = some r := H
                have A38 := Aside0.mk A380
                clear A380
                have H' := Aside0.mk H
                clear H
                have p201 : 0 ≤ (x14_1 : Int) := odt
                have q201 : x14_1 < (l1.length : Int) := odt
                obtain ⟨ad201, e201, hx201_0, hx201_1, hx201_2⟩ := at_T66 HR1.out x14_1 p201 q201
                (try rw [← Nbq31.out] at hx201_2)
                cases e201
                replace hx201_0 := (HB.out.cell (World.block_lt_of_cell? w _ hx201_0)).trans hx201_0
                replace hx201_1 := (HB.out.cell (World.block_lt_of_cell? w _ hx201_1)).trans hx201_1
                replace hx201_2 := (HB.out.cell (World.block_lt_of_cell? w _ hx201_2)).trans hx201_2
                replace p201 := eq_true p201
                replace q201 := eq_true q201
                go_wp2_with (first | ((with_reducible refine gate_dst (N := 7) rfl ?_); refine bE (N := 7) (cs := #[.string (⟨#[]⟩ : ByteArray), .int .i64 0, .bool false]) (t := 66) ?_; intro gb202 hg w39 hbox hb; have n0_ := Aside0.mk (Kd.R_below (pR HO_5) hb); have n1_ := Aside0.mk (below_step (w := w) bW hb); have n2_ := Aside0.mk (hbox); have n3_ := Aside0.mk (gS (w := w) hg); have n4_ := n3_; clear HO_5; clear HB; have HO_5 := n0_; have HB := n1_; have BK202 := n2_; have GW202 := n3_; have GE202 := n4_; clear n0_ n1_ n2_ n3_ n4_; clear hb hbox hg; obtain ⟨hcz40_0, hcz40_1, hcz40_2⟩ := cz3 BK202; obtain ⟨hfz40_0, hfz40_1, hfz40_2⟩ := fz3 BK202; obtain ⟨Ao41, co41, eo41⟩ := Kd.R_slice HO_5.out; subst eo41) | ((with_reducible refine gate_callee (f := 46) rfl ?_); refine goesL_ (some 22) rfl rfl Try.func46 (by kernel_rfl) rfl #[.slice Ao41 x5_1.length co41, .string ((rd_T66 l1 x14_1).f0)] rfl gA ?_; (with_reducible refine (impl_find.calls _ _ x5_1 ((rd_T66 l1 x14_1).f0) t203 false _ ?side1 ?side2 A8.out).mono ?_); (case side1 => refine (Kd.R_reads' (e := 35) (base := w.heap.size) (ok := fun k_ => True) (n := x5_1.length) (c := co41) ?_).2.2; exact (by exact (Kd.R_mono (Kd.R_far (p := ⟨gb202, 2, none⟩) (Kd.R_far (p := ⟨gb202, 1, none⟩) (Kd.R_far (p := ⟨gb202, 0, none⟩) (Kd.R_types HO_5.out BK202.out (by decide)) (fun _ hk => hk.2) (.string ((rd_T66 l1 x14_1).f0))) (fun _ hk => hk.2) (.int .i64 ((rd_T66 l1 x14_1).f1))) (fun _ hk => hk.2) (.bool false)) (fun _ h_ => h_.1)))); (case side2 => exact (Kd.R_reads' HO_5.out).2.1); rintro e w42 ⟨rfl, hb⟩; refine ⟨_, rfl, ?_⟩; have n0_ := Aside0.mk (Kd.R_below (by exact (Kd.R_mono (Kd.R_far (p := ⟨gb202, 2, none⟩) (Kd.R_far (p := ⟨gb202, 1, none⟩) (Kd.R_far (p := ⟨gb202, 0, none⟩) (Kd.R_types HO_5.out BK202.out (by decide)) (fun _ hk => hk.2) (.string ((rd_T66 l1 x14_1).f0))) (fun _ hk => hk.2) (.int .i64 ((rd_T66 l1 x14_1).f1))) (fun _ hk => hk.2) (.bool false)) (fun _ h_ => h_.1))) hb); have n1_ := Aside0.mk (blk_below (g := gb202) (o := .cells #[.string ((rd_T66 l1 x14_1).f0), .int .i64 ((rd_T66 l1 x14_1).f1), .bool false] 66 (0, 0)) (by refine blk_put (cs := #[.string ((rd_T66 l1 x14_1).f0), .int .i64 ((rd_T66 l1 x14_1).f1), .bool false]) ?_ 2 _ rfl; refine blk_put (cs := #[.string ((rd_T66 l1 x14_1).f0), .int .i64 0, .bool false]) ?_ 1 _ rfl; refine blk_put (cs := #[.string (⟨#[]⟩ : ByteArray), .int .i64 0, .bool false]) ?_ 0 _ rfl; exact BK202.out) hb); have n2_ := Aside0.mk (below_step (w := w) bW hb); clear HO_5; clear BK202; clear HB; have HO_5 := n0_; have BK202 := n1_; have HB := n2_; clear n0_ n1_ n2_; (try clear hb); obtain ⟨hcz43_0, hcz43_1, hcz43_2⟩ := cz3 BK202; obtain ⟨hfz43_0, hfz43_1, hfz43_2⟩ := fz3 BK202) | ((with_reducible refine gate_dst (N := 41) rfl ?_); refine Kd.R_lit k35 _ 35 ?hg (N := 41) ?hd (xs := ([(⟨(rd_T66 l1 x14_1).f0, (rd_T66 l1 x14_1).f1⟩ : S35)] : List (S35))) (inner := [.string ((rd_T66 l1 x14_1).f0), .int .i64 ((rd_T66 l1 x14_1).f1)]) (ok := fun _ => True) (okp := fun _ => True) ?hr ?hp (fun _ hk => hk) trivial (Below.refl _ _) (Nat.le_refl _) (by simp) ?_; (case hd => rfl); (case hg => rfl); (case hr => (go_simp; done)); (case hp => exact (Reps.c2 (show Kd.M k35 _ _ _ (⟨(rd_T66 l1 x14_1).f0, (rd_T66 l1 x14_1).f1⟩ : S35) [.string ((rd_T66 l1 x14_1).f0), .int .i64 ((rd_T66 l1 x14_1).f1)] from (k35_mkM _ _ _ (⟨(rd_T66 l1 x14_1).f0, (rd_T66 l1 x14_1).f1⟩ : S35) )) (Reps.none _ _))); intro v215 w44 ho45 hb hg_ hnew_; clear hg_ hnew_; (rw [← Ny214.out] at ho45); have n0_ := Aside0.mk (Kd.R_elder' (pR HO_5) (Kd.R_base ho45) hb); have n1_ := Aside0.mk (Kd.R_lower (Kd.R_new' ho45 (Kd.R_lt (pR HO_5))) (below_size (w := w) bW)); have n2_ := Aside0.mk (kb BK202 hb); have n3_ := Aside0.mk (below_step (w := w) bW hb); clear HO_5; clear BK202; clear HB; have HO_5 := n0_; have HO216 := n1_; have BK202 := n2_; have HB := n3_; clear n0_ n1_ n2_ n3_; clear hb ho45; obtain ⟨Ao46, co46, eo46⟩ := Kd.R_slice HO216.out; subst eo46) | ((with_reducible refine gate_callee (f := 83) rfl ?_); refine goesL_ (some 42) rfl rfl Try.func83 (by kernel_rfl) rfl #[.slice Ao41 x5_1.length co41, .int .i64 t203, .slice Ao46 y214.length co46] rfl gA ?_; (with_reducible refine (impl_Entry_83.calls (fun k_ => some k_ = (.slice Ao41 x5_1.length co41 : Value).ownBlock) (.slice Ao41 x5_1.length co41) x5_1 t203 (fun k_ => some k_ = (.slice Ao46 y214.length co46 : Value).ownBlock) (.slice Ao46 y214.length co46) y214 t217 w _ ?side1 ?side2 ?side3 ?side4 ?side5 A38.out).mono ?_); (case side1 => repeat ((with_reducible exact HB.out))); (case side2 => exact Kd.R_tight rfl HO_5.out); (case side3 => exact fun k_ e_ => (HO_5.out.1 k_ e_.symm).2); (case side4 => exact Kd.R_tight rfl HO216.out); (case side5 => exact fun k_ e_ => (HO216.out.1 k_ e_.symm).2); rintro e w47 ⟨v218, rfl, ho0, hb, hkp⟩; refine ⟨_, rfl, ?_⟩; have n0_ := Aside0.mk (blk_kept (kB BK202) hkp (fun hs_ => Or.elim hs_ (fun e_ => (fun e_ => (Kd.R_ne HO_5.out BK202.out (by decide)) e_) e_) (fun e_ => (fun e_ => (Kd.R_ne HO216.out BK202.out (by decide)) e_) e_))); have n1_ := Aside0.mk (Kd.R_mono (ok' := fun k_ => True) ho0 (fun k_ hk_ => trivial)); have n2_ := Aside0.mk (hb); clear BK202; clear HB; clear HO216; clear HO_5; have BK202 := n0_; have HO219 := n1_; have HB := n2_; clear n0_ n1_ n2_; (try clear hb); (try clear hkp); (try clear ho0)))
                go_roundg k1
                case measure => have := HK1.out; omega
                case rel => exact ⟨(t217), (wrap64 (x14_1 + 1)), vE, H', ⟨by have := HK1.out; omega⟩, ⟨by exact HO219.out⟩, ⟨bW⟩⟩
          · rw [if_neg c7] at H
            exact absurd H (by simp)
        · rw [if_neg c6] at H
          exact absurd H (by simp)
      · rw [if_neg c5] at H
        have c5b0 : decide (x14_1 < (l1.length : Int)) = false := decide_eq_false c5
        clear c5
        obtain rfl := Option.some.inj H
        go_wp2
        go_ret
        exact ⟨_, by rfl, by exact HO_5.out, bW⟩
end Go.Proofs.Ytkmjmgkpcomldaa.Q
end

section
namespace Go.Proofs.Ytkmjmgkpcomldaa.Q
open Go.RowKit Go.Proofs.YtkmjmgkpcomldaaW.PrintWords Go.Proofs.YtkmjmgkpcomldaaW.PrintLast Go.Proofs.YtkmjmgkpcomldaaW.PrintMore
attribute [local go_sem] max2_int min2_int max_two min_two max_three min_three max_four min_four   -- for this text's walks alone
set_option linter.unusedVariables false
set_option linter.unusedSimpArgs false
attribute [local go_sem] bin_leq bin_gtr bin_geq
def sortEditL_ren : Go.Shelf.Ren := ⟨fun | 6 => 107 | 15 => 119 | 14 => 118 | 28 => 132 | 29 => 133 | 20 => 124 | 21 => 125 | 22 => 126 | 23 => 127 | 24 => 128 | 25 => 129 | 26 => 130 | 27 => 131 | 46 => 135 | 47 => 136 | 48 => 137 | 49 => 138 | 50 => 139 | 57 => 140 | n => n, fun | 22 => 54 | 24 => 66 | 25 => 110 | 3 => 3 | 39 => 113 | 0 => 0 | 53 => 127 | 55 => 129 | 4 => 4 | 46 => 121 | 45 => 120 | 50 => 69 | 5 => 5 | 9 => 9 | 66 => 131 | 70 => 135 | 76 => 137 | 77 => 29 | n => n, fun | n => n⟩
theorem sortEditL : Go.Proofs.SlLaysF0.n6 Try.prog sortEditL_ren := {
  mixed := by kernel_rfl
  f6 := ⟨Try.f107.name, by decide, Try.func107.trans (congrArg some (by kernel_rfl))⟩
  f14 := ⟨Try.f118.name, by decide, Try.func118.trans (congrArg some (by kernel_rfl))⟩
  f15 := Try.func119.trans (congrArg some (by kernel_rfl))
  f20 := ⟨Try.f124.name, by decide, Try.func124.trans (congrArg some (by kernel_rfl))⟩
  f21 := ⟨Try.f125.name, by decide, Try.func125.trans (congrArg some (by kernel_rfl))⟩
  f22 := ⟨Try.f126.name, by decide, Try.func126.trans (congrArg some (by kernel_rfl))⟩
  f23 := ⟨Try.f127.name, by decide, Try.func127.trans (congrArg some (by kernel_rfl))⟩
  f24 := ⟨Try.f128.name, by decide, Try.func128.trans (congrArg some (by kernel_rfl))⟩
  f25 := ⟨Try.f129.name, by decide, Try.func129.trans (congrArg some (by kernel_rfl))⟩
  f26 := ⟨Try.f130.name, by decide, Try.func130.trans (congrArg some (by kernel_rfl))⟩
  f27 := ⟨Try.f131.name, by decide, Try.func131.trans (congrArg some (by kernel_rfl))⟩
  f28 := Try.func132.trans (congrArg some (by kernel_rfl))
  f29 := Try.func133.trans (congrArg some (by kernel_rfl))
  f46 := ⟨Try.f135.name, by decide, Try.func135.trans (congrArg some (by kernel_rfl))⟩
  f47 := Try.func136.trans (congrArg some (by kernel_rfl))
  f48 := Try.func137.trans (congrArg some (by kernel_rfl))
  f49 := ⟨Try.f138.name, by decide, Try.func138.trans (congrArg some (by kernel_rfl))⟩
  f50 := ⟨Try.f139.name, by decide, Try.func139.trans (congrArg some (by kernel_rfl))⟩
  f57 := ⟨Try.f140.name, by decide, Try.func140.trans (congrArg some (by kernel_rfl))⟩
  t0 := Try.underlying0
  a0 := Try.isAgg0
  z0 := Try.sizeOf0
  v0 := Try.zeroValue0
  t3 := Try.underlying3
  a3 := Try.isAgg3
  z3 := Try.sizeOf3
  v3 := Try.zeroValue3
  t4 := Try.underlying4
  a4 := Try.isAgg4
  z4 := Try.sizeOf4
  v4 := Try.zeroValue4
  t5 := Try.underlying5
  a5 := Try.isAgg5
  z5 := Try.sizeOf5
  v5 := Try.zeroValue5
  t9 := Try.underlying9
  a9 := Try.isAgg9
  z9 := Try.sizeOf9
  v9 := Try.zeroValue9
  t22 := Try.underlying54
  a22 := Try.isAgg54
  z22 := Try.sizeOf54
  v22 := Try.zeroValue54
  t25 := Try.underlying110
  a25 := Try.isAgg110
  z25 := Try.sizeOf110
  v25 := Try.zeroValue110
  t39 := Try.underlying113
  a39 := Try.isAgg113
  z39 := Try.sizeOf113
  v39 := Try.zeroValue113
  t45 := Try.underlying120
  a45 := Try.isAgg120
  z45 := Try.sizeOf120
  v45 := Try.zeroValue120
  t46 := Try.underlying121
  a46 := Try.isAgg121
  z46 := Try.sizeOf121
  v46 := Try.zeroValue121
  t50 := Try.underlying69
  a50 := Try.isAgg69
  z50 := Try.sizeOf69
  v50 := Try.zeroValue69
  t53 := Try.underlying127
  a53 := Try.isAgg127
  z53 := Try.sizeOf127
  v53 := Try.zeroValue127
  t55 := Try.underlying129
  a55 := Try.isAgg129
  z55 := Try.sizeOf129
  v55 := Try.zeroValue129
  t66 := Try.underlying131
  a66 := Try.isAgg131
  z66 := Try.sizeOf131
  v66 := Try.zeroValue131
  t70 := Try.underlying135
  a70 := Try.isAgg135
  z70 := Try.sizeOf135
  v70 := Try.zeroValue135
  t76 := Try.underlying137
  a76 := Try.isAgg137
  z76 := Try.sizeOf137
  v76 := Try.zeroValue137
  t77 := Try.underlying29
  a77 := Try.isAgg29
  z77 := Try.sizeOf29
  v77 := Try.zeroValue29 }
instance : Inhabited S66 := ⟨z66⟩
def encD (x : S66) : List Value := [.string x.f0, .int .i64 x.f1, .bool x.f2]
theorem encD_len (x : S66) : (encD x).length = 3 := rfl
theorem ediM {w : World} {base : Nat} {ok : Nat → Prop} {x : S66} {cs : List Value} : k66.M w base ok x cs ↔ cs = encD x :=
  ⟨fun h => k66_openM h, fun h => by rw [h]; exact k66_mkM w base ok x⟩
theorem encD_one : ∀ x : S66, ∀ v ∈ encD x, v.oneCell' = true := by
  intro x v hv
  simp only [encD, List.mem_cons, List.mem_nil_iff, or_false] at hv
  rcases hv with rfl | rfl | rfl <;> rfl
def cmpE (x y : S66) : Int := cmpB x.f0 y.f0
theorem ltE (x y : S66) : Go.Proofs.ltOf cmpE x y = sblt x.f0 y.f0 := by
  unfold Go.Proofs.ltOf
  rw [Bool.eq_iff_iff, decide_eq_true_eq]
  unfold cmpE cmpB sblt
  rw [cmp_lt, ByteArray.toList_eq, ByteArray.toList_eq]
theorem sblt_ntr {x y z : ByteArray} (h1 : sblt x y = false) (h2 : sblt y z = false) : sblt x z = false := by
  cases h3 : sblt x z with
  | false => rfl
  | true =>
    cases h4 : sblt y x with
    | true => rw [sblt_trans h4 h3] at h2; cases h2
    | false =>
      obtain rfl := sblt_tri h1 h4
      rw [h3] at h2
      cases h2
theorem swoE : Go.Sort.SWO (Go.Proofs.ltOf cmpE) := by
  refine ⟨fun x => ?_, fun x y z h1 h2 => ?_, fun x y z h1 h2 => ?_⟩
  · rw [ltE]; exact sblt_irrefl _
  · rw [ltE] at *; exact sblt_trans h1 h2
  · rw [ltE] at *; exact sblt_ntr h1 h2
def sortE (l : List S66) : List S66 := (Go.Sort.pdq (Go.Proofs.ltOf cmpE) l.toArray 0 l.toArray.size (Go.Lib.bitLen l.toArray.size) true true).toList
theorem sortE_is (l : List S66) : (sortE l).Perm l ∧ (sortE l).Pairwise (fun a b => sblt b.f0 a.f0 = false) := by
  obtain ⟨⟨hs, _, hp⟩, ho⟩ := Go.Sort.pdq_sorts (Go.Proofs.ltOf cmpE) swoE l.toArray 0 l.toArray.size (Go.Lib.bitLen l.toArray.size) true true (Nat.zero_le _) (Nat.le_refl _) (Or.inl rfl)
  have e1 : ∀ a : Array S66, a.size = l.toArray.size → a.extract 0 l.toArray.size = a := fun a h => by rw [← h]; exact Array.extract_size
  rw [e1 _ hs, e1 _ rfl] at hp
  refine ⟨hp, ?_⟩
  rw [List.pairwise_iff_getElem]
  intro i j hi hj hij
  have hi' : i < (Go.Sort.pdq (Go.Proofs.ltOf cmpE) l.toArray 0 l.toArray.size (Go.Lib.bitLen l.toArray.size) true true).size := by simpa [sortE] using hi
  have hj' : j < (Go.Sort.pdq (Go.Proofs.ltOf cmpE) l.toArray 0 l.toArray.size (Go.Lib.bitLen l.toArray.size) true true).size := by simpa [sortE] using hj
  have h := ho i j (Nat.zero_le _) hij (by rw [← hs]; exact hj')
  rw [ltE, getElem!_pos _ i hi', getElem!_pos _ j hj'] at h
  simpa [sortE] using h
theorem sortE_len (l : List S66) : (sortE l).length = l.length := (sortE_is l).1.length_eq
theorem flat_get {α : Type} {enc : α → List Value} {k : Nat} (hk : ∀ x, (enc x).length = k) (hk0 : 0 < k) (l : List α) (t : Nat) (ht : t < l.length * k) : (l.flatMap enc)[t]? = (enc (l[t / k]'(Nat.div_lt_of_lt_mul (by rw [Nat.mul_comm]; exact ht))))[t % k]? := by
  have hq : t / k < l.length := Nat.div_lt_of_lt_mul (by rw [Nat.mul_comm]; exact ht)
  have hr : t % k < k := Nat.mod_lt _ hk0
  have e : t = t / k * k + t % k := by rw [Nat.mul_comm]; exact (Nat.div_add_mod t k).symm
  have e2 : (l.flatMap enc)[t]? = ((l.flatMap enc).drop (t / k * k))[t % k]? := by rw [List.getElem?_drop, ← e]
  rw [e2, flat_drop hk, List.drop_eq_getElem_cons hq, List.flatMap_cons, List.getElem?_append_left (by rw [hk]; exact hr)]
theorem flatK_is (l : List S66) : (Go.Sort.flatK encD 3 l.toArray).toList = l.flatMap encD := by
  apply List.ext_getElem?
  intro t
  by_cases ht : t < l.length * 3
  · have hq : t / 3 < l.length := by omega
    rw [flat_get encD_len (by decide) l t ht]
    have hr : t % 3 < (encD l[t / 3]).length := by rw [encD_len]; omega
    rw [List.getElem?_eq_getElem hr]
    simp only [Go.Sort.flatK, Array.getElem?_toList, Array.getElem?_map]
    rw [Array.getElem?_range, if_pos (by simpa using ht), Option.map_some, getElem!_pos _ (t / 3) (by simpa using hq), getElem!_pos _ (t % 3) (by simpa using hr)]
    rfl
  · rw [List.getElem?_eq_none (by simpa using Nat.not_lt.mp ht), List.getElem?_eq_none (by rw [flat_len encD_len]; omega)]
theorem holdsE {w : World} {g : Nat} {cur : Array Value} {e : TypeId} {l : List S66} (hb : w.heap[g]? = some (.cells cur e (0, 0))) (ht : cur.toList.take (l.length * 3) = l.flatMap encD) : Go.Sort.HoldsK encD 3 w g 0 l.toArray := by
  intro j hj
  have hj' : j < l.length * 3 := by simpa using hj
  refine ⟨?_, by simp [World.frozen?, hb]⟩
  have h1 : (cur.toList.take (l.length * 3))[j]? = (Go.Sort.flatK encD 3 l.toArray).toList[j]? := by rw [ht, flatK_is]
  rw [List.getElem?_take_of_lt hj', Array.getElem?_toList, Array.getElem?_toList, Array.getElem?_eq_getElem hj] at h1
  rw [getElem!_pos _ j hj]
  simp only [World.cell?, hb, Nat.zero_add]
  simp only [Option.isSome_none, Bool.false_eq_true, if_false]
  rw [h1]
  rfl
theorem heapE {w : World} {g n : Nat} {os : Array Obj} {cur : Array Value} {e : TypeId} {fr : Nat × Nat} (d : Array S66) (hb : w.heap[g]? = some (.cells cur e fr)) :
    (Go.Proofs.sortWorldK encD 3 w g 0 n d os).heap[g]? = some (.cells (Go.Sort.putCells id 0 (Go.Sort.flatK encD 3 d) cur) e fr) := by
  have hg : g < w.heap.size := (Array.getElem?_eq_some_iff.1 hb).1
  unfold Go.Proofs.sortWorldK Go.Sort.putRowK
  rw [Go.Sort.heap_grow_old _ _ (by simpa [Go.Sort.ahead] using hg)]
  simp [Go.Sort.putRow, Go.Sort.mapBlock, Go.Sort.ahead, Array.getElem?_modify, hb, Go.Sort.onCells]
theorem grownE {w : World} {g n : Nat} {os : Array Obj} (d : Array S66) : w.grownBy (Go.Proofs.sortWorldK encD 3 w g 0 n d os) (some g) := by
  unfold Go.Proofs.sortWorldK Go.Sort.putRowK
  refine ⟨rfl, rfl, rfl, by simp [Go.Sort.ahead], fun k hk hne => ?_⟩
  rw [Go.Sort.heap_grow_old _ _ (by simpa [Go.Sort.ahead] using hk)]
  have : g ≠ k := fun e => hne (by rw [e])
  simp [Go.Sort.putRow, Go.Sort.mapBlock, Go.Sort.ahead, Array.getElem?_modify, this]
theorem takeE (cur : Array Value) (l : List S66) (h : l.length * 3 ≤ cur.size) : (Go.Sort.putCells id 0 (Go.Sort.flatK encD 3 l.toArray) cur).toList.take (l.length * 3) = l.flatMap encD := by
  rw [← flatK_is]
  apply List.ext_getElem?
  intro j
  by_cases hj : j < l.length * 3
  · have hj2 : j < (Go.Sort.flatK encD 3 l.toArray).size := by simpa using hj
    rw [List.getElem?_take_of_lt hj, Array.getElem?_toList, Array.getElem?_toList, Array.getElem?_eq_getElem hj2]
    simp only [Go.Sort.putCells, Array.getElem?_mapIdx]
    rw [Array.getElem?_eq_getElem (show j < cur.size by omega), Option.map_some, if_pos ⟨Nat.zero_le _, by omega⟩, Nat.sub_zero, getElem!_pos _ j hj2]
    rfl
  · rw [List.getElem?_take_eq_none (by omega), List.getElem?_eq_none (by simp; omega)]
end Go.Proofs.Ytkmjmgkpcomldaa.Q
end

section
namespace Go.Proofs.Ytkmjmgkpcomldaa.Q
open Go.RowKit Go.Proofs.YtkmjmgkpcomldaaW.PrintWords Go.Proofs.YtkmjmgkpcomldaaW.PrintLast Go.Proofs.YtkmjmgkpcomldaaW.PrintMore
attribute [local go_sem] max2_int min2_int max_two min_two max_three min_three max_four min_four   -- for this text's walks alone
set_option linter.unusedVariables false
set_option linter.unusedSimpArgs false
attribute [local go_sem] bin_leq bin_gtr bin_geq
def sort_Edit.f (l0 : List (S66)) : Option (List (S66)) := if l0.length < 4611686018427387904 then some (sortE l0) else none
theorem cmp_calls (x y : S66) (W : World) : Calls Try.prog 108 #[.agg #[.string x.f0, .int .i64 x.f1, .bool x.f2], .agg #[.string y.f0, .int .i64 y.f1, .bool y.f2]] W fun e w' => e = .returned (.int .i64 (cmpE x y)) ∧ ∃ q os', w' = Go.Sort.grow (W.drewN q) os' := by
  have A2 := Aside0.mk (show strings_Compare.f x.f0 y.f0 = some (cmpE x y) from rfl)
  generalize cmpE x y = r at A2 ⊢
  go_enter Try.func108, Try.ntmps108
  go_wp2_with (go_at_call 86; (with_reducible refine (strings_Compare.calls _ _ _ _ A2.out).mono ?_); rintro e w' ⟨rfl, ⟨n, rfl⟩⟩)
  go_ret
  exact ⟨rfl, _, _, by rw [Go.Sort.alloc_eq_grow, Go.Sort.alloc_eq_grow, Go.Sort.grow_grow]; rfl⟩
theorem sort_Edit.calls (P0_ : Nat → Prop) (u9000_ : Value) (l0 : List (S66)) (r : List (S66)) (w0 w : World) (hB : Below w0.heap.size w0 w) (ho0 : Kd.R k66 66 w w0.heap.size P0_ u9000_ l0) (h : sort_Edit.f l0 = some r) :
    Calls Try.prog 107 #[u9000_, .func (.func 108) #[] #[]] w fun e w' => e = .returned (.tuple #[]) ∧ Kd.R k66 66 w' w0.heap.size (fun k_ => (P0_ k_ ∨ w.heap.size ≤ k_)) u9000_ r ∧ Below w0.heap.size w0 w' ∧ Kept w w' (fun k_ => P0_ k_) := by
  unfold sort_Edit.f at h
  by_cases hlen : l0.length < 4611686018427387904
  case neg => rw [if_neg hlen] at h; cases h
  rw [if_pos hlen] at h
  obtain rfl := Option.some.inj h
  clear h
  by_cases hp : 0 < l0.length
  · obtain ⟨g, cap, cur, rfl, hbg, hok, hg, hn, hm, hs, ht⟩ := flatR_open (enc := encD) ediM encD_len rfl ho0 hp
    have hblk : g < w.heap.size := blk_lt hg
    refine (Go.Proofs.AnyQ.slices_SortFunc_eq sortEditL 3 Try.isAgg66 Try.sizeOf66 encD encD_len encD_one cmpE swoE 108 #[] g 0 cap l0.toArray w (enters_ Try.func108 (by kernel_rfl) rfl) (fun m os dk _ x y => cmp_calls x y _) (holdsE hg ht) hblk hlen).mono ?_
    rintro e w' ⟨rfl, n, os, rfl⟩
    have hl : (sortE l0).length = l0.length := sortE_len l0
    refine ⟨rfl, ?_, Below.grown hB (grownE _) hB.size (fun k hk => by injection hk with hk; rw [← hk]; exact hbg), ?_⟩
    · refine flatR_mk (enc := encD) ediM encD_len rfl hl.symm hbg (.inl hok) (heapE _ hg) hn hm (by rw [Go.Sort.putCells, Array.size_mapIdx]; exact hs) ?_
      have e1 : Go.Sort.pdq (Go.Proofs.ltOf cmpE) l0.toArray 0 l0.toArray.size (Go.Lib.bitLen l0.toArray.size) true true = (sortE l0).toArray := by simp [sortE]
      rw [e1, ← hl]
      exact takeE cur (sortE l0) (by rw [hl, hs]; exact Nat.mul_le_mul_right 3 hn)
    · obtain ⟨_, _, _, gs, gb⟩ := grownE (w := w) (g := g) (n := n) (os := os) (Go.Sort.pdq (Go.Proofs.ltOf cmpE) l0.toArray 0 l0.toArray.size (Go.Lib.bitLen l0.toArray.size) true true)
      exact ⟨gs, fun k hk hS => gb k hk (fun e_ => hS (by injection e_ with e_; rw [e_]; exact hok))⟩
  · have h0 : l0 = [] := List.eq_nil_of_length_eq_zero (by omega)
    subst h0
    obtain ⟨A, c, rfl⟩ := Kd.R_slice ho0
    refine (Go.Proofs.AnyF.slices_SortFunc_none { sortEditL with } A c _ w).mono ?_
    rintro e w' ⟨rfl, rfl⟩
    have e0 : sortE [] = [] := List.eq_nil_of_length_eq_zero (by rw [sortE_len]; rfl)
    rw [e0]
    exact ⟨rfl, Kd.R_mono ho0 (fun _ hk => .inl hk), hB, Kept.refl _ _⟩
end Go.Proofs.Ytkmjmgkpcomldaa.Q
end

section
namespace Go.Proofs.Ytkmjmgkpcomldaa.Q
open Go.RowKit Go.Proofs.YtkmjmgkpcomldaaW.PrintWords Go.Proofs.YtkmjmgkpcomldaaW.PrintLast Go.Proofs.YtkmjmgkpcomldaaW.PrintMore
attribute [local go_sem] max2_int min2_int max_two min_two max_three min_three max_four min_four   -- for this text's walks alone
set_option linter.unusedVariables false
set_option linter.unusedSimpArgs false
attribute [local go_sem] bin_leq bin_gtr bin_geq
mutual
def impl_diff.l0 : Nat → List (S35) → List (S35) → List (S66) → List (S35) → Int → Int → Option ((List (S66)))
  | 0, _, _, _, _, _, _ => none
  | k + 1, x0, x1, x5, x14, x15, x16 => if x16 < x15 then (if 0 ≤ x16 then (if x16 < (x14.length : Int) then ((impl_find.f x0 ((rd_T35 x14 x16).f0)).bind fun bt723 => (if bt723.2 = true then (if 0 ≤ bt723.1 then (if bt723.1 < (x0.length : Int) then (if ((rd_T35 x0 bt723.1).f1) = ((rd_T35 x14 x16).f1) then (impl_diff.l0 k x0 x1 x5 x14 x15 (wrap64 (x16 + 1))) else (if x5.length < 4398046511104 then (impl_diff.l0 k x0 x1 (x5 ++ [(⟨(rd_T35 x14 x16).f0, (rd_T35 x14 x16).f1, false⟩ : S66)]) x14 x15 (wrap64 (x16 + 1))) else (none))) else (none)) else (none)) else (if x5.length < 4398046511104 then (impl_diff.l0 k x0 x1 (x5 ++ [(⟨(rd_T35 x14 x16).f0, (rd_T35 x14 x16).f1, false⟩ : S66)]) x14 x15 (wrap64 (x16 + 1))) else (none)))) else (none)) else (none)) else (impl_diff.l1 k x1 x5 x0 (x0.length : Int) 0)
def impl_diff.l1 : Nat → List (S35) → List (S66) → List (S35) → Int → Int → Option ((List (S66)))
  | 0, _, _, _, _, _ => none
  | k + 1, x1, x5, x48, x49, x50 => if x50 < x49 then (if 0 ≤ x50 then (if x50 < (x48.length : Int) then ((impl_find.f x1 ((rd_T35 x48 x50).f0)).bind fun bt734 => (if bt734.2 = true then (impl_diff.l1 k x1 x5 x48 x49 (wrap64 (x50 + 1))) else (if x5.length < 4398046511104 then (impl_diff.l1 k x1 (x5 ++ [(⟨(rd_T35 x48 x50).f0, 0, true⟩ : S66)]) x48 x49 (wrap64 (x50 + 1))) else (none)))) else (none)) else (none)) else ((sort_Edit.f x5).bind fun t739 => (some t739))
end
def impl_diff.f (k : Nat) (l0 : List (S35)) (l1 : List (S35)) : Option ((List (S66))) := impl_diff.l0 k l0 l1 ([] : List (S66)) l1 (l1.length : Int) 0
set_option maxHeartbeats 8000000 in
set_option maxRecDepth 100000 in
theorem impl_diff.calls (k : Nat) (A0 : Option Addr) (c0 : Nat) (l0 : List (S35)) (A1 : Option Addr) (c1 : Nat) (l1 : List (S35)) (r : List (S66)) (w : World) (hr0 : Kd.C k35 w A0 l0.length l0) (hc0 : l0.length ≤ c0) (hr1 : Kd.C k35 w A1 l1.length l1) (hc1 : l1.length ≤ c1) (h : impl_diff.f k l0 l1 = some r) :
    Calls Try.prog 78 #[.slice A0 l0.length c0, .slice A1 l1.length c1] w fun e w' => ∃ v0_ : Value, e = .returned (v0_) ∧ Kd.R k66 66 w' w.heap.size (fun _ => True) v0_ r ∧ Below w.heap.size w w' := by
  have hu35 := Try.underlying35
  have hu66 := Try.underlying66
  have HR0 := Aside0.mk hr0
  have HC0 := Aside0.mk hc0
  clear hr0 hc0
  have HR1 := Aside0.mk hr1
  have HC1 := Aside0.mk hc1
  clear hr1 hc1
  have HB := Aside0.mk (Below.refl w.heap.size w)
  have H : (impl_diff.l0 k l0 l1 ([] : List (S66)) l1 (l1.length : Int) 0) = some r := h
  clear h
  have H' := Aside0.mk H
  clear H
  go_enter Try.func78, Try.ntmps78
  go_wp2
  repeat (go_quiet (fail); try go_wp2)
  go_loopg [5, 16] k (fun kq v5 v16 w' => ∃ (x5_1 : List (S66)) (x16_1 : Int), v16 = .int .i64 x16_1 ∧ Aside0 (impl_diff.l0 kq l0 l1 x5_1 l1 (l1.length : Int) x16_1 = some r) ∧ Aside0 (kq ≤ k) ∧ Aside0 (Kd.R k66 66 w' w.heap.size (fun _ => True) v5 x5_1) ∧ Aside0 (Below w.heap.size w w'))
  case atStart => exact ⟨(([] : List (S66))), (0), vE, H', ⟨Nat.le_refl _⟩, ⟨by first | exact Kd.R_nil _ _ _ _ _ | exact Kd.N_nil _ _ _ _ _ | exact Kd.V_nil _ _ _ _ _ | exact Kd.Q_nil _ _ _ _ _ | exact Kd.S_nil _ _ _ _ _⟩, ⟨bW⟩⟩
  case round =>
    clear H'
    try clear c1
    try clear p2
    obtain ⟨x5_1, x16_1, rfl, HA, HK1, HO_5, HB⟩ := hrel
    cases gk with
    | zero => exact absurd HA.out (by simp [impl_diff.l0])
    | succ k1 =>
      have H := HA.out
      clear HA
      simp only [impl_diff.l0] at H
      by_cases c3 : x16_1 < (l1.length : Int)
      · rw [if_pos c3] at H
        have c3b0 : decide (x16_1 < (l1.length : Int)) = true := decide_eq_true c3
        clear c3
        by_cases c4 : 0 ≤ x16_1
        · rw [if_pos c4] at H
          have c4b0 : decide (0 ≤ x16_1) = true := decide_eq_true c4
          clear c4
          by_cases c5 : x16_1 < (l1.length : Int)
          · rw [if_pos c5] at H
            have c5b0 : decide (x16_1 < (l1.length : Int)) = true := decide_eq_true c5
            clear c5
            replace H := Option.bind_eq_some_iff.mp H
            obtain ⟨⟨t723, t724⟩, A60, H⟩ := H
            replace H : (if t724 = true then (if 0 ≤ t723 then (if t723 < (l0.length : Int) then (if ((rd_T35 l0 t723).f1) = ((rd_T35 l1 x16_1).f1) then (impl_diff.l0 k1 l0 l1 x5_1 l1 (l1.length : Int) (wrap64 (x16_1 + 1))) else (if x5_1.length < 4398046511104 then (impl_diff.l0 k1 l0 l1 (x5_1 ++ [(⟨(rd_T35 l1 x16_1).f0, (rd_T35 l1 x16_1).f1, false⟩ : S66)]) l1 (l1.length : Int) (wrap64 (x16_1 + 1))) else (none))) else (none)) else (none)) else (if x5_1.length < 4398046511104 then (impl_diff.l0 k1 l0 l1 (x5_1 ++ [(⟨(rd_T35 l1 x16_1).f0, (rd_T35 l1 x16_1).f1, false⟩ : S66)]) l1 (l1.length : Int) (wrap64 (x16_1 + 1))) else (none))) = some r := H
            have A6 := Aside0.mk A60
            clear A60
            by_cases c7 : t724 = true
            · subst c7
              have H1 : (if 0 ≤ t723 then (if t723 < (l0.length : Int) then (if ((rd_T35 l0 t723).f1) = ((rd_T35 l1 x16_1).f1) then (impl_diff.l0 k1 l0 l1 x5_1 l1 (l1.length : Int) (wrap64 (x16_1 + 1))) else (if x5_1.length < 4398046511104 then (impl_diff.l0 k1 l0 l1 (x5_1 ++ [(⟨(rd_T35 l1 x16_1).f0, (rd_T35 l1 x16_1).f1, false⟩ : S66)]) l1 (l1.length : Int) (wrap64 (x16_1 + 1))) else (none))) else (none)) else (none)) = some r := by rw [if_pos rfl] at H; exact H
              clear H
              have H := H1
              clear H1
              by_cases c8 : 0 ≤ t723
              · rw [if_pos c8] at H
                have c8b0 : decide (0 ≤ t723) = true := decide_eq_true c8
                clear c8
                by_cases c9 : t723 < (l0.length : Int)
                · rw [if_pos c9] at H
                  have c9b0 : decide (t723 < (l0.length : Int)) = true := decide_eq_true c9
                  clear c9
                  by_cases c10 : ((rd_T35 l0 t723).f1) = ((rd_T35 l1 x16_1).f1)
                  · rw [if_pos c10] at H
                    have c10b0 : (((rd_T35 l0 t723).f1) == ((rd_T35 l1 x16_1).f1)) = true := beq_iff_eq.mpr c10
                    have c10b1 : (((rd_T35 l0 t723).f1) != ((rd_T35 l1 x16_1).f1)) = false := bne_eq_false_iff_eq.mpr c10
                    clear c10
                    have H' := Aside0.mk H
                    clear H
                    have p721 : 0 ≤ (x16_1 : Int) := odt
                    have q721 : x16_1 < (l1.length : Int) := odt
                    obtain ⟨ad721, e721, hx721_0, hx721_1⟩ := at_T35 HR1.out x16_1 p721 q721
                    cases e721
                    replace hx721_0 := (HB.out.cell (World.block_lt_of_cell? w _ hx721_0)).trans hx721_0
                    replace hx721_1 := (HB.out.cell (World.block_lt_of_cell? w _ hx721_1)).trans hx721_1
                    replace p721 := eq_true p721
                    replace q721 := eq_true q721
                    go_wp2_with (first | ((with_reducible refine gate_dst (N := 7) rfl ?_); refine bE (N := 7) (cs := #[.string (⟨#[]⟩ : ByteArray), .int .i64 0]) (t := 35) ?_; intro gb722 hg w11 hbox hb; have n0_ := Aside0.mk (Kd.R_below (pR HO_5) hb); have n1_ := Aside0.mk (below_step (w := w) bW hb); have n2_ := Aside0.mk (hbox); have n3_ := Aside0.mk (gS (w := w) hg); have n4_ := n3_; clear HO_5; clear HB; have HO_5 := n0_; have HB := n1_; have BK722 := n2_; have GW722 := n3_; have GE722 := n4_; clear n0_ n1_ n2_ n3_ n4_; clear hb hbox hg; obtain ⟨hcz12_0, hcz12_1⟩ := cz2 BK722; obtain ⟨hfz12_0, hfz12_1⟩ := fz2 BK722) | (go_at_call 46; (with_reducible refine (impl_find.calls _ _ l0 ((rd_T35 l1 x16_1).f0) t723 true _ ?side1 ?side2 A6.out).mono ?_); (case side1 => exact Kd.C_below HR0.out bW); (case side2 => exact HC0.out); rintro e w13 ⟨rfl, hb⟩; have n0_ := Aside0.mk (Kd.R_below (by (with_reducible repeat (first | apply Kd.R_alloc | apply Kd.R_drewN | apply Kd.R_drew)); exact (Kd.R_mono (Kd.R_far (p := ⟨gb722, 1, none⟩) (Kd.R_far (p := ⟨gb722, 0, none⟩) (Kd.R_types HO_5.out BK722.out (by decide)) (fun _ hk => hk.2) (.string ((rd_T35 l1 x16_1).f0))) (fun _ hk => hk.2) (.int .i64 ((rd_T35 l1 x16_1).f1))) (fun _ h_ => h_.1))) hb); have n1_ := Aside0.mk (blk_below (g := gb722) (o := .cells #[.string ((rd_T35 l1 x16_1).f0), .int .i64 ((rd_T35 l1 x16_1).f1)] 35 (0, 0)) (by (with_reducible repeat (first | refine blk_drewN ?_ _ | refine blk_drew ?_ | refine blk_alloc ?_ _)); refine blk_put (cs := #[.string ((rd_T35 l1 x16_1).f0), .int .i64 0]) ?_ 1 _ rfl; (with_reducible repeat (first | refine blk_drewN ?_ _ | refine blk_drew ?_ | refine blk_alloc ?_ _)); refine blk_put (cs := #[.string (⟨#[]⟩ : ByteArray), .int .i64 0]) ?_ 0 _ rfl; (with_reducible repeat (first | refine blk_drewN ?_ _ | refine blk_drew ?_ | refine blk_alloc ?_ _)); exact BK722.out) hb); have n2_ := Aside0.mk (below_step (w := w) bW hb); clear HO_5; clear BK722; clear HB; have HO_5 := n0_; have BK722 := n1_; have HB := n2_; clear n0_ n1_ n2_; (try clear hb); (try clear hb2); (try clear hk); (try clear hi); have p725 : 0 ≤ (t723 : Int) := odt; have q725 : t723 < (l0.length : Int) := odt; obtain ⟨ad725, e725, hx725_0, hx725_1⟩ := at_T35 HR0.out t723 p725 q725; cases e725; replace hx725_0 := (HB.out.cell (World.block_lt_of_cell? w _ hx725_0)).trans hx725_0; replace hx725_1 := (HB.out.cell (World.block_lt_of_cell? w _ hx725_1)).trans hx725_1; replace p725 := eq_true p725; replace q725 := eq_true q725; obtain ⟨hcz14_0, hcz14_1⟩ := cz2 BK722; obtain ⟨hfz14_0, hfz14_1⟩ := fz2 BK722))
                    repeat (go_quiet (first | ((with_reducible refine gate_dst (N := 7) rfl ?_); refine bE (N := 7) (cs := #[.string (⟨#[]⟩ : ByteArray), .int .i64 0]) (t := 35) ?_; intro gb722 hg w11 hbox hb; have n0_ := Aside0.mk (Kd.R_below (pR HO_5) hb); have n1_ := Aside0.mk (below_step (w := w) bW hb); have n2_ := Aside0.mk (hbox); have n3_ := Aside0.mk (gS (w := w) hg); have n4_ := n3_; clear HO_5; clear HB; have HO_5 := n0_; have HB := n1_; have BK722 := n2_; have GW722 := n3_; have GE722 := n4_; clear n0_ n1_ n2_ n3_ n4_; clear hb hbox hg; obtain ⟨hcz12_0, hcz12_1⟩ := cz2 BK722; obtain ⟨hfz12_0, hfz12_1⟩ := fz2 BK722) | (go_at_call 46; (with_reducible refine (impl_find.calls _ _ l0 ((rd_T35 l1 x16_1).f0) t723 true _ ?side1 ?side2 A6.out).mono ?_); (case side1 => exact Kd.C_below HR0.out bW); (case side2 => exact HC0.out); rintro e w13 ⟨rfl, hb⟩; have n0_ := Aside0.mk (Kd.R_below (by (with_reducible repeat (first | apply Kd.R_alloc | apply Kd.R_drewN | apply Kd.R_drew)); exact (Kd.R_mono (Kd.R_far (p := ⟨gb722, 1, none⟩) (Kd.R_far (p := ⟨gb722, 0, none⟩) (Kd.R_types HO_5.out BK722.out (by decide)) (fun _ hk => hk.2) (.string ((rd_T35 l1 x16_1).f0))) (fun _ hk => hk.2) (.int .i64 ((rd_T35 l1 x16_1).f1))) (fun _ h_ => h_.1))) hb); have n1_ := Aside0.mk (blk_below (g := gb722) (o := .cells #[.string ((rd_T35 l1 x16_1).f0), .int .i64 ((rd_T35 l1 x16_1).f1)] 35 (0, 0)) (by (with_reducible repeat (first | refine blk_drewN ?_ _ | refine blk_drew ?_ | refine blk_alloc ?_ _)); refine blk_put (cs := #[.string ((rd_T35 l1 x16_1).f0), .int .i64 0]) ?_ 1 _ rfl; (with_reducible repeat (first | refine blk_drewN ?_ _ | refine blk_drew ?_ | refine blk_alloc ?_ _)); refine blk_put (cs := #[.string (⟨#[]⟩ : ByteArray), .int .i64 0]) ?_ 0 _ rfl; (with_reducible repeat (first | refine blk_drewN ?_ _ | refine blk_drew ?_ | refine blk_alloc ?_ _)); exact BK722.out) hb); have n2_ := Aside0.mk (below_step (w := w) bW hb); clear HO_5; clear BK722; clear HB; have HO_5 := n0_; have BK722 := n1_; have HB := n2_; clear n0_ n1_ n2_; (try clear hb); (try clear hb2); (try clear hk); (try clear hi); have p725 : 0 ≤ (t723 : Int) := odt; have q725 : t723 < (l0.length : Int) := odt; obtain ⟨ad725, e725, hx725_0, hx725_1⟩ := at_T35 HR0.out t723 p725 q725; cases e725; replace hx725_0 := (HB.out.cell (World.block_lt_of_cell? w _ hx725_0)).trans hx725_0; replace hx725_1 := (HB.out.cell (World.block_lt_of_cell? w _ hx725_1)).trans hx725_1; replace p725 := eq_true p725; replace q725 := eq_true q725; obtain ⟨hcz14_0, hcz14_1⟩ := cz2 BK722; obtain ⟨hfz14_0, hfz14_1⟩ := fz2 BK722)); try go_wp2_with (first | ((with_reducible refine gate_dst (N := 7) rfl ?_); refine bE (N := 7) (cs := #[.string (⟨#[]⟩ : ByteArray), .int .i64 0]) (t := 35) ?_; intro gb722 hg w11 hbox hb; have n0_ := Aside0.mk (Kd.R_below (pR HO_5) hb); have n1_ := Aside0.mk (below_step (w := w) bW hb); have n2_ := Aside0.mk (hbox); have n3_ := Aside0.mk (gS (w := w) hg); have n4_ := n3_; clear HO_5; clear HB; have HO_5 := n0_; have HB := n1_; have BK722 := n2_; have GW722 := n3_; have GE722 := n4_; clear n0_ n1_ n2_ n3_ n4_; clear hb hbox hg; obtain ⟨hcz12_0, hcz12_1⟩ := cz2 BK722; obtain ⟨hfz12_0, hfz12_1⟩ := fz2 BK722) | (go_at_call 46; (with_reducible refine (impl_find.calls _ _ l0 ((rd_T35 l1 x16_1).f0) t723 true _ ?side1 ?side2 A6.out).mono ?_); (case side1 => exact Kd.C_below HR0.out bW); (case side2 => exact HC0.out); rintro e w13 ⟨rfl, hb⟩; have n0_ := Aside0.mk (Kd.R_below (by (with_reducible repeat (first | apply Kd.R_alloc | apply Kd.R_drewN | apply Kd.R_drew)); exact (Kd.R_mono (Kd.R_far (p := ⟨gb722, 1, none⟩) (Kd.R_far (p := ⟨gb722, 0, none⟩) (Kd.R_types HO_5.out BK722.out (by decide)) (fun _ hk => hk.2) (.string ((rd_T35 l1 x16_1).f0))) (fun _ hk => hk.2) (.int .i64 ((rd_T35 l1 x16_1).f1))) (fun _ h_ => h_.1))) hb); have n1_ := Aside0.mk (blk_below (g := gb722) (o := .cells #[.string ((rd_T35 l1 x16_1).f0), .int .i64 ((rd_T35 l1 x16_1).f1)] 35 (0, 0)) (by (with_reducible repeat (first | refine blk_drewN ?_ _ | refine blk_drew ?_ | refine blk_alloc ?_ _)); refine blk_put (cs := #[.string ((rd_T35 l1 x16_1).f0), .int .i64 0]) ?_ 1 _ rfl; (with_reducible repeat (first | refine blk_drewN ?_ _ | refine blk_drew ?_ | refine blk_alloc ?_ _)); refine blk_put (cs := #[.string (⟨#[]⟩ : ByteArray), .int .i64 0]) ?_ 0 _ rfl; (with_reducible repeat (first | refine blk_drewN ?_ _ | refine blk_drew ?_ | refine blk_alloc ?_ _)); exact BK722.out) hb); have n2_ := Aside0.mk (below_step (w := w) bW hb); clear HO_5; clear BK722; clear HB; have HO_5 := n0_; have BK722 := n1_; have HB := n2_; clear n0_ n1_ n2_; (try clear hb); (try clear hb2); (try clear hk); (try clear hi); have p725 : 0 ≤ (t723 : Int) := odt; have q725 : t723 < (l0.length : Int) := odt; obtain ⟨ad725, e725, hx725_0, hx725_1⟩ := at_T35 HR0.out t723 p725 q725; cases e725; replace hx725_0 := (HB.out.cell (World.block_lt_of_cell? w _ hx725_0)).trans hx725_0; replace hx725_1 := (HB.out.cell (World.block_lt_of_cell? w _ hx725_1)).trans hx725_1; replace p725 := eq_true p725; replace q725 := eq_true q725; obtain ⟨hcz14_0, hcz14_1⟩ := cz2 BK722; obtain ⟨hfz14_0, hfz14_1⟩ := fz2 BK722)))
                    go_roundg k1
                    case measure => have := HK1.out; omega
                    case rel => exact ⟨(x5_1), (wrap64 (x16_1 + 1)), vE, H', ⟨by have := HK1.out; omega⟩, ⟨by (with_reducible repeat (first | apply Kd.R_alloc | apply Kd.R_drewN | apply Kd.R_drew)); exact HO_5.out⟩, ⟨bW⟩⟩
                  · rw [if_neg c10] at H
                    have c10b0 : (((rd_T35 l0 t723).f1) == ((rd_T35 l1 x16_1).f1)) = false := beq_eq_false_iff_ne.mpr c10
                    have c10b1 : (((rd_T35 l0 t723).f1) != ((rd_T35 l1 x16_1).f1)) = true := bne_iff_ne.mpr c10
                    by_cases c15 : x5_1.length < 4398046511104
                    · rw [if_pos c15] at H
                      have LMc15 := Aside0.mk c15
                      clear c15
                      obtain ⟨y726, hy726⟩ : ∃ y_ : List (S66), y_ = (x5_1 ++ [(⟨(rd_T35 l1 x16_1).f0, (rd_T35 l1 x16_1).f1, false⟩ : S66)]) := ⟨_, rfl⟩
                      replace H : (impl_diff.l0 k1 l0 l1 y726 l1 (l1.length : Int) (wrap64 (x16_1 + 1))) = some r := by first | (rw [hy726]; with_reducible exact H) | (have H2_ := (Option.bind_some _ _).symm.trans H; rw [hy726]; with_reducible exact H2_) | (have H2_ := (Option.bind_some _ _).symm.trans H; with_reducible exact H2_) | with_reducible exact H | (rw [hy726]; exact H) | exact H
                      have Ny726 := Aside0.mk hy726
                      clear hy726
                      have H' := Aside0.mk H
                      clear H
                      have p721 : 0 ≤ (x16_1 : Int) := odt
                      have q721 : x16_1 < (l1.length : Int) := odt
                      obtain ⟨ad721, e721, hx721_0, hx721_1⟩ := at_T35 HR1.out x16_1 p721 q721
                      cases e721
                      replace hx721_0 := (HB.out.cell (World.block_lt_of_cell? w _ hx721_0)).trans hx721_0
                      replace hx721_1 := (HB.out.cell (World.block_lt_of_cell? w _ hx721_1)).trans hx721_1
                      replace p721 := eq_true p721
                      replace q721 := eq_true q721
                      go_wp2_with (first | ((with_reducible refine gate_dst (N := 7) rfl ?_); refine bE (N := 7) (cs := #[.string (⟨#[]⟩ : ByteArray), .int .i64 0]) (t := 35) ?_; intro gb722 hg w16 hbox hb; have n0_ := Aside0.mk (Kd.R_below (pR HO_5) hb); have n1_ := Aside0.mk (below_step (w := w) bW hb); have n2_ := Aside0.mk (hbox); have n3_ := Aside0.mk (gS (w := w) hg); have n4_ := n3_; clear HO_5; clear HB; have HO_5 := n0_; have HB := n1_; have BK722 := n2_; have GW722 := n3_; have GE722 := n4_; clear n0_ n1_ n2_ n3_ n4_; clear hb hbox hg; obtain ⟨hcz17_0, hcz17_1⟩ := cz2 BK722; obtain ⟨hfz17_0, hfz17_1⟩ := fz2 BK722) | (go_at_call 46; (with_reducible refine (impl_find.calls _ _ l0 ((rd_T35 l1 x16_1).f0) t723 true _ ?side1 ?side2 A6.out).mono ?_); (case side1 => exact Kd.C_below HR0.out bW); (case side2 => exact HC0.out); rintro e w18 ⟨rfl, hb⟩; have n0_ := Aside0.mk (Kd.R_below (by (with_reducible repeat (first | apply Kd.R_alloc | apply Kd.R_drewN | apply Kd.R_drew)); exact (Kd.R_mono (Kd.R_far (p := ⟨gb722, 1, none⟩) (Kd.R_far (p := ⟨gb722, 0, none⟩) (Kd.R_types HO_5.out BK722.out (by decide)) (fun _ hk => hk.2) (.string ((rd_T35 l1 x16_1).f0))) (fun _ hk => hk.2) (.int .i64 ((rd_T35 l1 x16_1).f1))) (fun _ h_ => h_.1))) hb); have n1_ := Aside0.mk (blk_below (g := gb722) (o := .cells #[.string ((rd_T35 l1 x16_1).f0), .int .i64 ((rd_T35 l1 x16_1).f1)] 35 (0, 0)) (by (with_reducible repeat (first | refine blk_drewN ?_ _ | refine blk_drew ?_ | refine blk_alloc ?_ _)); refine blk_put (cs := #[.string ((rd_T35 l1 x16_1).f0), .int .i64 0]) ?_ 1 _ rfl; (with_reducible repeat (first | refine blk_drewN ?_ _ | refine blk_drew ?_ | refine blk_alloc ?_ _)); refine blk_put (cs := #[.string (⟨#[]⟩ : ByteArray), .int .i64 0]) ?_ 0 _ rfl; (with_reducible repeat (first | refine blk_drewN ?_ _ | refine blk_drew ?_ | refine blk_alloc ?_ _)); exact BK722.out) hb); have n2_ := Aside0.mk (below_step (w := w) bW hb); clear HO_5; clear BK722; clear HB; have HO_5 := n0_; have BK722 := n1_; have HB := n2_; clear n0_ n1_ n2_; (try clear hb); (try clear hb2); (try clear hk); (try clear hi); have p725 : 0 ≤ (t723 : Int) := odt; have q725 : t723 < (l0.length : Int) := odt; obtain ⟨ad725, e725, hx725_0, hx725_1⟩ := at_T35 HR0.out t723 p725 q725; cases e725; replace hx725_0 := (HB.out.cell (World.block_lt_of_cell? w _ hx725_0)).trans hx725_0; replace hx725_1 := (HB.out.cell (World.block_lt_of_cell? w _ hx725_1)).trans hx725_1; replace p725 := eq_true p725; replace q725 := eq_true q725; obtain ⟨hcz19_0, hcz19_1⟩ := cz2 BK722; obtain ⟨hfz19_0, hfz19_1⟩ := fz2 BK722) | ((with_reducible refine gate_builtin (b := .append) (xs := #[.tmp 39, .tmp 45]) rfl ?_); at_builtin; refine Kd.R_append k66 (w0 := w) w.heap.size rfl (.tmp 39) (.tmp 45) 54 66 (.agg #[(.string ⟨#[]⟩), (.int .i64 0), (.bool false)]) 32 rfl Try.underlying54 info66 rfl (by decide) (by omega) u5 x5_1 (⟨(rd_T35 l1 x16_1).f0, (rd_T35 l1 x16_1).f1, false⟩ : S66) [.string ((rd_T35 l1 x16_1).f0), .int .i64 ((rd_T35 l1 x16_1).f1), .bool false] (fun _ => True) (fun _ => False) rfl rfl ?aP (fun _ hk => hk.elim) ?aF ?aO ?aB ?aS ?aL ?_; (case aP => exact k66_mkM _ _ _ (⟨(rd_T35 l1 x16_1).f0, (rd_T35 l1 x16_1).f1, false⟩ : S66)); (case aB => exact bW); (case aF => exact (fun _ _ => trivial)); (case aO => exact (pR HO_5)); (case aS => exact (below_size (w := w) bW)); (case aL => have := LMc15.out; omega); intro v727 w20 ho hb hg hat; rw [← Ny726.out] at ho; have n0_ := Aside0.mk (blk_grown (g := gb722) (o := .cells #[.string ((rd_T35 l1 x16_1).f0), .int .i64 ((rd_T35 l1 x16_1).f1)] 35 (0, 0)) (kB BK722) hg (Kd.R_ne HO_5.out BK722.out (by decide))); have n1_ := Aside0.mk (hb); have n2_ := Aside0.mk (ho); clear BK722; clear HB; clear HO_5; have BK722 := n0_; have HB := n1_; have HO728 := n2_; clear n0_ n1_ n2_; clear ho hb hg hat))
                      repeat (go_quiet (first | ((with_reducible refine gate_dst (N := 7) rfl ?_); refine bE (N := 7) (cs := #[.string (⟨#[]⟩ : ByteArray), .int .i64 0]) (t := 35) ?_; intro gb722 hg w16 hbox hb; have n0_ := Aside0.mk (Kd.R_below (pR HO_5) hb); have n1_ := Aside0.mk (below_step (w := w) bW hb); have n2_ := Aside0.mk (hbox); have n3_ := Aside0.mk (gS (w := w) hg); have n4_ := n3_; clear HO_5; clear HB; have HO_5 := n0_; have HB := n1_; have BK722 := n2_; have GW722 := n3_; have GE722 := n4_; clear n0_ n1_ n2_ n3_ n4_; clear hb hbox hg; obtain ⟨hcz17_0, hcz17_1⟩ := cz2 BK722; obtain ⟨hfz17_0, hfz17_1⟩ := fz2 BK722) | (go_at_call 46; (with_reducible refine (impl_find.calls _ _ l0 ((rd_T35 l1 x16_1).f0) t723 true _ ?side1 ?side2 A6.out).mono ?_); (case side1 => exact Kd.C_below HR0.out bW); (case side2 => exact HC0.out); rintro e w18 ⟨rfl, hb⟩; have n0_ := Aside0.mk (Kd.R_below (by (with_reducible repeat (first | apply Kd.R_alloc | apply Kd.R_drewN | apply Kd.R_drew)); exact (Kd.R_mono (Kd.R_far (p := ⟨gb722, 1, none⟩) (Kd.R_far (p := ⟨gb722, 0, none⟩) (Kd.R_types HO_5.out BK722.out (by decide)) (fun _ hk => hk.2) (.string ((rd_T35 l1 x16_1).f0))) (fun _ hk => hk.2) (.int .i64 ((rd_T35 l1 x16_1).f1))) (fun _ h_ => h_.1))) hb); have n1_ := Aside0.mk (blk_below (g := gb722) (o := .cells #[.string ((rd_T35 l1 x16_1).f0), .int .i64 ((rd_T35 l1 x16_1).f1)] 35 (0, 0)) (by (with_reducible repeat (first | refine blk_drewN ?_ _ | refine blk_drew ?_ | refine blk_alloc ?_ _)); refine blk_put (cs := #[.string ((rd_T35 l1 x16_1).f0), .int .i64 0]) ?_ 1 _ rfl; (with_reducible repeat (first | refine blk_drewN ?_ _ | refine blk_drew ?_ | refine blk_alloc ?_ _)); refine blk_put (cs := #[.string (⟨#[]⟩ : ByteArray), .int .i64 0]) ?_ 0 _ rfl; (with_reducible repeat (first | refine blk_drewN ?_ _ | refine blk_drew ?_ | refine blk_alloc ?_ _)); exact BK722.out) hb); have n2_ := Aside0.mk (below_step (w := w) bW hb); clear HO_5; clear BK722; clear HB; have HO_5 := n0_; have BK722 := n1_; have HB := n2_; clear n0_ n1_ n2_; (try clear hb); (try clear hb2); (try clear hk); (try clear hi); have p725 : 0 ≤ (t723 : Int) := odt; have q725 : t723 < (l0.length : Int) := odt; obtain ⟨ad725, e725, hx725_0, hx725_1⟩ := at_T35 HR0.out t723 p725 q725; cases e725; replace hx725_0 := (HB.out.cell (World.block_lt_of_cell? w _ hx725_0)).trans hx725_0; replace hx725_1 := (HB.out.cell (World.block_lt_of_cell? w _ hx725_1)).trans hx725_1; replace p725 := eq_true p725; replace q725 := eq_true q725; obtain ⟨hcz19_0, hcz19_1⟩ := cz2 BK722; obtain ⟨hfz19_0, hfz19_1⟩ := fz2 BK722) | ((with_reducible refine gate_builtin (b := .append) (xs := #[.tmp 39, .tmp 45]) rfl ?_); at_builtin; refine Kd.R_append k66 (w0 := w) w.heap.size rfl (.tmp 39) (.tmp 45) 54 66 (.agg #[(.string ⟨#[]⟩), (.int .i64 0), (.bool false)]) 32 rfl Try.underlying54 info66 rfl (by decide) (by omega) u5 x5_1 (⟨(rd_T35 l1 x16_1).f0, (rd_T35 l1 x16_1).f1, false⟩ : S66) [.string ((rd_T35 l1 x16_1).f0), .int .i64 ((rd_T35 l1 x16_1).f1), .bool false] (fun _ => True) (fun _ => False) rfl rfl ?aP (fun _ hk => hk.elim) ?aF ?aO ?aB ?aS ?aL ?_; (case aP => exact k66_mkM _ _ _ (⟨(rd_T35 l1 x16_1).f0, (rd_T35 l1 x16_1).f1, false⟩ : S66)); (case aB => exact bW); (case aF => exact (fun _ _ => trivial)); (case aO => exact (pR HO_5)); (case aS => exact (below_size (w := w) bW)); (case aL => have := LMc15.out; omega); intro v727 w20 ho hb hg hat; rw [← Ny726.out] at ho; have n0_ := Aside0.mk (blk_grown (g := gb722) (o := .cells #[.string ((rd_T35 l1 x16_1).f0), .int .i64 ((rd_T35 l1 x16_1).f1)] 35 (0, 0)) (kB BK722) hg (Kd.R_ne HO_5.out BK722.out (by decide))); have n1_ := Aside0.mk (hb); have n2_ := Aside0.mk (ho); clear BK722; clear HB; clear HO_5; have BK722 := n0_; have HB := n1_; have HO728 := n2_; clear n0_ n1_ n2_; clear ho hb hg hat)); try go_wp2_with (first | ((with_reducible refine gate_dst (N := 7) rfl ?_); refine bE (N := 7) (cs := #[.string (⟨#[]⟩ : ByteArray), .int .i64 0]) (t := 35) ?_; intro gb722 hg w16 hbox hb; have n0_ := Aside0.mk (Kd.R_below (pR HO_5) hb); have n1_ := Aside0.mk (below_step (w := w) bW hb); have n2_ := Aside0.mk (hbox); have n3_ := Aside0.mk (gS (w := w) hg); have n4_ := n3_; clear HO_5; clear HB; have HO_5 := n0_; have HB := n1_; have BK722 := n2_; have GW722 := n3_; have GE722 := n4_; clear n0_ n1_ n2_ n3_ n4_; clear hb hbox hg; obtain ⟨hcz17_0, hcz17_1⟩ := cz2 BK722; obtain ⟨hfz17_0, hfz17_1⟩ := fz2 BK722) | (go_at_call 46; (with_reducible refine (impl_find.calls _ _ l0 ((rd_T35 l1 x16_1).f0) t723 true _ ?side1 ?side2 A6.out).mono ?_); (case side1 => exact Kd.C_below HR0.out bW); (case side2 => exact HC0.out); rintro e w18 ⟨rfl, hb⟩; have n0_ := Aside0.mk (Kd.R_below (by (with_reducible repeat (first | apply Kd.R_alloc | apply Kd.R_drewN | apply Kd.R_drew)); exact (Kd.R_mono (Kd.R_far (p := ⟨gb722, 1, none⟩) (Kd.R_far (p := ⟨gb722, 0, none⟩) (Kd.R_types HO_5.out BK722.out (by decide)) (fun _ hk => hk.2) (.string ((rd_T35 l1 x16_1).f0))) (fun _ hk => hk.2) (.int .i64 ((rd_T35 l1 x16_1).f1))) (fun _ h_ => h_.1))) hb); have n1_ := Aside0.mk (blk_below (g := gb722) (o := .cells #[.string ((rd_T35 l1 x16_1).f0), .int .i64 ((rd_T35 l1 x16_1).f1)] 35 (0, 0)) (by (with_reducible repeat (first | refine blk_drewN ?_ _ | refine blk_drew ?_ | refine blk_alloc ?_ _)); refine blk_put (cs := #[.string ((rd_T35 l1 x16_1).f0), .int .i64 0]) ?_ 1 _ rfl; (with_reducible repeat (first | refine blk_drewN ?_ _ | refine blk_drew ?_ | refine blk_alloc ?_ _)); refine blk_put (cs := #[.string (⟨#[]⟩ : ByteArray), .int .i64 0]) ?_ 0 _ rfl; (with_reducible repeat (first | refine blk_drewN ?_ _ | refine blk_drew ?_ | refine blk_alloc ?_ _)); exact BK722.out) hb); have n2_ := Aside0.mk (below_step (w := w) bW hb); clear HO_5; clear BK722; clear HB; have HO_5 := n0_; have BK722 := n1_; have HB := n2_; clear n0_ n1_ n2_; (try clear hb); (try clear hb2); (try clear hk); (try clear hi); have p725 : 0 ≤ (t723 : Int) := odt; have q725 : t723 < (l0.length : Int) := odt; obtain ⟨ad725, e725, hx725_0, hx725_1⟩ := at_T35 HR0.out t723 p725 q725; cases e725; replace hx725_0 := (HB.out.cell (World.block_lt_of_cell? w _ hx725_0)).trans hx725_0; replace hx725_1 := (HB.out.cell (World.block_lt_of_cell? w _ hx725_1)).trans hx725_1; replace p725 := eq_true p725; replace q725 := eq_true q725; obtain ⟨hcz19_0, hcz19_1⟩ := cz2 BK722; obtain ⟨hfz19_0, hfz19_1⟩ := fz2 BK722) | ((with_reducible refine gate_builtin (b := .append) (xs := #[.tmp 39, .tmp 45]) rfl ?_); at_builtin; refine Kd.R_append k66 (w0 := w) w.heap.size rfl (.tmp 39) (.tmp 45) 54 66 (.agg #[(.string ⟨#[]⟩), (.int .i64 0), (.bool false)]) 32 rfl Try.underlying54 info66 rfl (by decide) (by omega) u5 x5_1 (⟨(rd_T35 l1 x16_1).f0, (rd_T35 l1 x16_1).f1, false⟩ : S66) [.string ((rd_T35 l1 x16_1).f0), .int .i64 ((rd_T35 l1 x16_1).f1), .bool false] (fun _ => True) (fun _ => False) rfl rfl ?aP (fun _ hk => hk.elim) ?aF ?aO ?aB ?aS ?aL ?_; (case aP => exact k66_mkM _ _ _ (⟨(rd_T35 l1 x16_1).f0, (rd_T35 l1 x16_1).f1, false⟩ : S66)); (case aB => exact bW); (case aF => exact (fun _ _ => trivial)); (case aO => exact (pR HO_5)); (case aS => exact (below_size (w := w) bW)); (case aL => have := LMc15.out; omega); intro v727 w20 ho hb hg hat; rw [← Ny726.out] at ho; have n0_ := Aside0.mk (blk_grown (g := gb722) (o := .cells #[.string ((rd_T35 l1 x16_1).f0), .int .i64 ((rd_T35 l1 x16_1).f1)] 35 (0, 0)) (kB BK722) hg (Kd.R_ne HO_5.out BK722.out (by decide))); have n1_ := Aside0.mk (hb); have n2_ := Aside0.mk (ho); clear BK722; clear HB; clear HO_5; have BK722 := n0_; have HB := n1_; have HO728 := n2_; clear n0_ n1_ n2_; clear ho hb hg hat)))
                      go_roundg k1
                      case measure => have := HK1.out; omega
                      case rel => exact ⟨(y726), (wrap64 (x16_1 + 1)), vE, H', ⟨by have := HK1.out; omega⟩, ⟨by (with_reducible repeat (first | apply Kd.R_alloc | apply Kd.R_drewN | apply Kd.R_drew)); exact HO728.out⟩, ⟨bW⟩⟩
                    · rw [if_neg c15] at H
                      exact absurd H (by simp)
                · rw [if_neg c9] at H
                  exact absurd H (by simp)
              · rw [if_neg c8] at H
                exact absurd H (by simp)
            · replace c7 := Bool.eq_false_iff.mpr c7
              subst c7
              have H1 : (if x5_1.length < 4398046511104 then (impl_diff.l0 k1 l0 l1 (x5_1 ++ [(⟨(rd_T35 l1 x16_1).f0, (rd_T35 l1 x16_1).f1, false⟩ : S66)]) l1 (l1.length : Int) (wrap64 (x16_1 + 1))) else (none)) = some r := by rw [if_neg (show ¬ (false = true) by decide)] at H; exact H
              clear H
              have H := H1
              clear H1
              by_cases c21 : x5_1.length < 4398046511104
              · rw [if_pos c21] at H
                have LMc21 := Aside0.mk c21
                clear c21
                obtain ⟨y729, hy729⟩ : ∃ y_ : List (S66), y_ = (x5_1 ++ [(⟨(rd_T35 l1 x16_1).f0, (rd_T35 l1 x16_1).f1, false⟩ : S66)]) := ⟨_, rfl⟩
                replace H : (impl_diff.l0 k1 l0 l1 y729 l1 (l1.length : Int) (wrap64 (x16_1 + 1))) = some r := by first | (rw [hy729]; with_reducible exact H) | (have H2_ := (Option.bind_some _ _).symm.trans H; rw [hy729]; with_reducible exact H2_) | (have H2_ := (Option.bind_some _ _).symm.trans H; with_reducible exact H2_) | with_reducible exact H | (rw [hy729]; exact H) | exact H
                have Ny729 := Aside0.mk hy729
                clear hy729
                have H' := Aside0.mk H
                clear H
                have p721 : 0 ≤ (x16_1 : Int) := odt
                have q721 : x16_1 < (l1.length : Int) := odt
                obtain ⟨ad721, e721, hx721_0, hx721_1⟩ := at_T35 HR1.out x16_1 p721 q721
                cases e721
                replace hx721_0 := (HB.out.cell (World.block_lt_of_cell? w _ hx721_0)).trans hx721_0
                replace hx721_1 := (HB.out.cell (World.block_lt_of_cell? w _ hx721_1)).trans hx721_1
                replace p721 := eq_true p721
                replace q721 := eq_true q721
                go_wp2_with (first | ((with_reducible refine gate_dst (N := 7) rfl ?_); refine bE (N := 7) (cs := #[.string (⟨#[]⟩ : ByteArray), .int .i64 0]) (t := 35) ?_; intro gb722 hg w22 hbox hb; have n0_ := Aside0.mk (Kd.R_below (pR HO_5) hb); have n1_ := Aside0.mk (below_step (w := w) bW hb); have n2_ := Aside0.mk (hbox); have n3_ := Aside0.mk (gS (w := w) hg); have n4_ := n3_; clear HO_5; clear HB; have HO_5 := n0_; have HB := n1_; have BK722 := n2_; have GW722 := n3_; have GE722 := n4_; clear n0_ n1_ n2_ n3_ n4_; clear hb hbox hg; obtain ⟨hcz23_0, hcz23_1⟩ := cz2 BK722; obtain ⟨hfz23_0, hfz23_1⟩ := fz2 BK722) | (go_at_call 46; (with_reducible refine (impl_find.calls _ _ l0 ((rd_T35 l1 x16_1).f0) t723 false _ ?side1 ?side2 A6.out).mono ?_); (case side1 => exact Kd.C_below HR0.out bW); (case side2 => exact HC0.out); rintro e w24 ⟨rfl, hb⟩; have n0_ := Aside0.mk (Kd.R_below (by (with_reducible repeat (first | apply Kd.R_alloc | apply Kd.R_drewN | apply Kd.R_drew)); exact (Kd.R_mono (Kd.R_far (p := ⟨gb722, 1, none⟩) (Kd.R_far (p := ⟨gb722, 0, none⟩) (Kd.R_types HO_5.out BK722.out (by decide)) (fun _ hk => hk.2) (.string ((rd_T35 l1 x16_1).f0))) (fun _ hk => hk.2) (.int .i64 ((rd_T35 l1 x16_1).f1))) (fun _ h_ => h_.1))) hb); have n1_ := Aside0.mk (blk_below (g := gb722) (o := .cells #[.string ((rd_T35 l1 x16_1).f0), .int .i64 ((rd_T35 l1 x16_1).f1)] 35 (0, 0)) (by (with_reducible repeat (first | refine blk_drewN ?_ _ | refine blk_drew ?_ | refine blk_alloc ?_ _)); refine blk_put (cs := #[.string ((rd_T35 l1 x16_1).f0), .int .i64 0]) ?_ 1 _ rfl; (with_reducible repeat (first | refine blk_drewN ?_ _ | refine blk_drew ?_ | refine blk_alloc ?_ _)); refine blk_put (cs := #[.string (⟨#[]⟩ : ByteArray), .int .i64 0]) ?_ 0 _ rfl; (with_reducible repeat (first | refine blk_drewN ?_ _ | refine blk_drew ?_ | refine blk_alloc ?_ _)); exact BK722.out) hb); have n2_ := Aside0.mk (below_step (w := w) bW hb); clear HO_5; clear BK722; clear HB; have HO_5 := n0_; have BK722 := n1_; have HB := n2_; clear n0_ n1_ n2_; (try clear hb); (try clear hb2); (try clear hk); (try clear hi); obtain ⟨hcz25_0, hcz25_1⟩ := cz2 BK722; obtain ⟨hfz25_0, hfz25_1⟩ := fz2 BK722) | ((with_reducible refine gate_builtin (b := .append) (xs := #[.tmp 39, .tmp 45]) rfl ?_); at_builtin; refine Kd.R_append k66 (w0 := w) w.heap.size rfl (.tmp 39) (.tmp 45) 54 66 (.agg #[(.string ⟨#[]⟩), (.int .i64 0), (.bool false)]) 32 rfl Try.underlying54 info66 rfl (by decide) (by omega) u5 x5_1 (⟨(rd_T35 l1 x16_1).f0, (rd_T35 l1 x16_1).f1, false⟩ : S66) [.string ((rd_T35 l1 x16_1).f0), .int .i64 ((rd_T35 l1 x16_1).f1), .bool false] (fun _ => True) (fun _ => False) rfl rfl ?aP (fun _ hk => hk.elim) ?aF ?aO ?aB ?aS ?aL ?_; (case aP => exact k66_mkM _ _ _ (⟨(rd_T35 l1 x16_1).f0, (rd_T35 l1 x16_1).f1, false⟩ : S66)); (case aB => exact bW); (case aF => exact (fun _ _ => trivial)); (case aO => exact (pR HO_5)); (case aS => exact (below_size (w := w) bW)); (case aL => have := LMc21.out; omega); intro v730 w26 ho hb hg hat; rw [← Ny729.out] at ho; have n0_ := Aside0.mk (blk_grown (g := gb722) (o := .cells #[.string ((rd_T35 l1 x16_1).f0), .int .i64 ((rd_T35 l1 x16_1).f1)] 35 (0, 0)) (kB BK722) hg (Kd.R_ne HO_5.out BK722.out (by decide))); have n1_ := Aside0.mk (hb); have n2_ := Aside0.mk (ho); clear BK722; clear HB; clear HO_5; have BK722 := n0_; have HB := n1_; have HO731 := n2_; clear n0_ n1_ n2_; clear ho hb hg hat))
                repeat (go_quiet (first | ((with_reducible refine gate_dst (N := 7) rfl ?_); refine bE (N := 7) (cs := #[.string (⟨#[]⟩ : ByteArray), .int .i64 0]) (t := 35) ?_; intro gb722 hg w22 hbox hb; have n0_ := Aside0.mk (Kd.R_below (pR HO_5) hb); have n1_ := Aside0.mk (below_step (w := w) bW hb); have n2_ := Aside0.mk (hbox); have n3_ := Aside0.mk (gS (w := w) hg); have n4_ := n3_; clear HO_5; clear HB; have HO_5 := n0_; have HB := n1_; have BK722 := n2_; have GW722 := n3_; have GE722 := n4_; clear n0_ n1_ n2_ n3_ n4_; clear hb hbox hg; obtain ⟨hcz23_0, hcz23_1⟩ := cz2 BK722; obtain ⟨hfz23_0, hfz23_1⟩ := fz2 BK722) | (go_at_call 46; (with_reducible refine (impl_find.calls _ _ l0 ((rd_T35 l1 x16_1).f0) t723 false _ ?side1 ?side2 A6.out).mono ?_); (case side1 => exact Kd.C_below HR0.out bW); (case side2 => exact HC0.out); rintro e w24 ⟨rfl, hb⟩; have n0_ := Aside0.mk (Kd.R_below (by (with_reducible repeat (first | apply Kd.R_alloc | apply Kd.R_drewN | apply Kd.R_drew)); exact (Kd.R_mono (Kd.R_far (p := ⟨gb722, 1, none⟩) (Kd.R_far (p := ⟨gb722, 0, none⟩) (Kd.R_types HO_5.out BK722.out (by decide)) (fun _ hk => hk.2) (.string ((rd_T35 l1 x16_1).f0))) (fun _ hk => hk.2) (.int .i64 ((rd_T35 l1 x16_1).f1))) (fun _ h_ => h_.1))) hb); have n1_ := Aside0.mk (blk_below (g := gb722) (o := .cells #[.string ((rd_T35 l1 x16_1).f0), .int .i64 ((rd_T35 l1 x16_1).f1)] 35 (0, 0)) (by (with_reducible repeat (first | refine blk_drewN ?_ _ | refine blk_drew ?_ | refine blk_alloc ?_ _)); refine blk_put (cs := #[.string ((rd_T35 l1 x16_1).f0), .int .i64 0]) ?_ 1 _ rfl; (with_reducible repeat (first | refine blk_drewN ?_ _ | refine blk_drew ?_ | refine blk_alloc ?_ _)); refine blk_put (cs := #[.string (⟨#[]⟩ : ByteArray), .int .i64 0]) ?_ 0 _ rfl; (with_reducible repeat (first | refine blk_drewN ?_ _ | refine blk_drew ?_ | refine blk_alloc ?_ _)); exact BK722.out) hb); have n2_ := Aside0.mk (below_step (w := w) bW hb); clear HO_5; clear BK722; clear HB; have HO_5 := n0_; have BK722 := n1_; have HB := n2_; clear n0_ n1_ n2_; (try clear hb); (try clear hb2); (try clear hk); (try clear hi); obtain ⟨hcz25_0, hcz25_1⟩ := cz2 BK722; obtain ⟨hfz25_0, hfz25_1⟩ := fz2 BK722) | ((with_reducible refine gate_builtin (b := .append) (xs := #[.tmp 39, .tmp 45]) rfl ?_); at_builtin; refine Kd.R_append k66 (w0 := w) w.heap.size rfl (.tmp 39) (.tmp 45) 54 66 (.agg #[(.string ⟨#[]⟩), (.int .i64 0), (.bool false)]) 32 rfl Try.underlying54 info66 rfl (by decide) (by omega) u5 x5_1 (⟨(rd_T35 l1 x16_1).f0, (rd_T35 l1 x16_1).f1, false⟩ : S66) [.string ((rd_T35 l1 x16_1).f0), .int .i64 ((rd_T35 l1 x16_1).f1), .bool false] (fun _ => True) (fun _ => False) rfl rfl ?aP (fun _ hk => hk.elim) ?aF ?aO ?aB ?aS ?aL ?_; (case aP => exact k66_mkM _ _ _ (⟨(rd_T35 l1 x16_1).f0, (rd_T35 l1 x16_1).f1, false⟩ : S66)); (case aB => exact bW); (case aF => exact (fun _ _ => trivial)); (case aO => exact (pR HO_5)); (case aS => exact (below_size (w := w) bW)); (case aL => have := LMc21.out; omega); intro v730 w26 ho hb hg hat; rw [← Ny729.out] at ho; have n0_ := Aside0.mk (blk_grown (g := gb722) (o := .cells #[.string ((rd_T35 l1 x16_1).f0), .int .i64 ((rd_T35 l1 x16_1).f1)] 35 (0, 0)) (kB BK722) hg (Kd.R_ne HO_5.out BK722.out (by decide))); have n1_ := Aside0.mk (hb); have n2_ := Aside0.mk (ho); clear BK722; clear HB; clear HO_5; have BK722 := n0_; have HB := n1_; have HO731 := n2_; clear n0_ n1_ n2_; clear ho hb hg hat)); try go_wp2_with (first | ((with_reducible refine gate_dst (N := 7) rfl ?_); refine bE (N := 7) (cs := #[.string (⟨#[]⟩ : ByteArray), .int .i64 0]) (t := 35) ?_; intro gb722 hg w22 hbox hb; have n0_ := Aside0.mk (Kd.R_below (pR HO_5) hb); have n1_ := Aside0.mk (below_step (w := w) bW hb); have n2_ := Aside0.mk (hbox); have n3_ := Aside0.mk (gS (w := w) hg); have n4_ := n3_; clear HO_5; clear HB; have HO_5 := n0_; have HB := n1_; have BK722 := n2_; have GW722 := n3_; have GE722 := n4_; clear n0_ n1_ n2_ n3_ n4_; clear hb hbox hg; obtain ⟨hcz23_0, hcz23_1⟩ := cz2 BK722; obtain ⟨hfz23_0, hfz23_1⟩ := fz2 BK722) | (go_at_call 46; (with_reducible refine (impl_find.calls _ _ l0 ((rd_T35 l1 x16_1).f0) t723 false _ ?side1 ?side2 A6.out).mono ?_); (case side1 => exact Kd.C_below HR0.out bW); (case side2 => exact HC0.out); rintro e w24 ⟨rfl, hb⟩; have n0_ := Aside0.mk (Kd.R_below (by (with_reducible repeat (first | apply Kd.R_alloc | apply Kd.R_drewN | apply Kd.R_drew)); exact (Kd.R_mono (Kd.R_far (p := ⟨gb722, 1, none⟩) (Kd.R_far (p := ⟨gb722, 0, none⟩) (Kd.R_types HO_5.out BK722.out (by decide)) (fun _ hk => hk.2) (.string ((rd_T35 l1 x16_1).f0))) (fun _ hk => hk.2) (.int .i64 ((rd_T35 l1 x16_1).f1))) (fun _ h_ => h_.1))) hb); have n1_ := Aside0.mk (blk_below (g := gb722) (o := .cells #[.string ((rd_T35 l1 x16_1).f0), .int .i64 ((rd_T35 l1 x16_1).f1)] 35 (0, 0)) (by (with_reducible repeat (first | refine blk_drewN ?_ _ | refine blk_drew ?_ | refine blk_alloc ?_ _)); refine blk_put (cs := #[.string ((rd_T35 l1 x16_1).f0), .int .i64 0]) ?_ 1 _ rfl; (with_reducible repeat (first | refine blk_drewN ?_ _ | refine blk_drew ?_ | refine blk_alloc ?_ _)); refine blk_put (cs := #[.string (⟨#[]⟩ : ByteArray), .int .i64 0]) ?_ 0 _ rfl; (with_reducible repeat (first | refine blk_drewN ?_ _ | refine blk_drew ?_ | refine blk_alloc ?_ _)); exact BK722.out) hb); have n2_ := Aside0.mk (below_step (w := w) bW hb); clear HO_5; clear BK722; clear HB; have HO_5 := n0_; have BK722 := n1_; have HB := n2_; clear n0_ n1_ n2_; (try clear hb); (try clear hb2); (try clear hk); (try clear hi); obtain ⟨hcz25_0, hcz25_1⟩ := cz2 BK722; obtain ⟨hfz25_0, hfz25_1⟩ := fz2 BK722) | ((with_reducible refine gate_builtin (b := .append) (xs := #[.tmp 39, .tmp 45]) rfl ?_); at_builtin; refine Kd.R_append k66 (w0 := w) w.heap.size rfl (.tmp 39) (.tmp 45) 54 66 (.agg #[(.string ⟨#[]⟩), (.int .i64 0), (.bool false)]) 32 rfl Try.underlying54 info66 rfl (by decide) (by omega) u5 x5_1 (⟨(rd_T35 l1 x16_1).f0, (rd_T35 l1 x16_1).f1, false⟩ : S66) [.string ((rd_T35 l1 x16_1).f0), .int .i64 ((rd_T35 l1 x16_1).f1), .bool false] (fun _ => True) (fun _ => False) rfl rfl ?aP (fun _ hk => hk.elim) ?aF ?aO ?aB ?aS ?aL ?_; (case aP => exact k66_mkM _ _ _ (⟨(rd_T35 l1 x16_1).f0, (rd_T35 l1 x16_1).f1, false⟩ : S66)); (case aB => exact bW); (case aF => exact (fun _ _ => trivial)); (case aO => exact (pR HO_5)); (case aS => exact (below_size (w := w) bW)); (case aL => have := LMc21.out; omega); intro v730 w26 ho hb hg hat; rw [← Ny729.out] at ho; have n0_ := Aside0.mk (blk_grown (g := gb722) (o := .cells #[.string ((rd_T35 l1 x16_1).f0), .int .i64 ((rd_T35 l1 x16_1).f1)] 35 (0, 0)) (kB BK722) hg (Kd.R_ne HO_5.out BK722.out (by decide))); have n1_ := Aside0.mk (hb); have n2_ := Aside0.mk (ho); clear BK722; clear HB; clear HO_5; have BK722 := n0_; have HB := n1_; have HO731 := n2_; clear n0_ n1_ n2_; clear ho hb hg hat)))
                go_roundg k1
                case measure => have := HK1.out; omega
                case rel => exact ⟨(y729), (wrap64 (x16_1 + 1)), vE, H', ⟨by have := HK1.out; omega⟩, ⟨by (with_reducible repeat (first | apply Kd.R_alloc | apply Kd.R_drewN | apply Kd.R_drew)); exact HO731.out⟩, ⟨bW⟩⟩
              · rw [if_neg c21] at H
                exact absurd H (by simp)
          · rw [if_neg c5] at H
            exact absurd H (by simp)
        · rw [if_neg c4] at H
          exact absurd H (by simp)
      · rw [if_neg c3] at H
        have c3b0 : decide (x16_1 < (l1.length : Int)) = false := decide_eq_false c3
        clear c3
        have H' := Aside0.mk H
        clear H
        go_wp2
        repeat (go_quiet (fail); try go_wp2)
        go_loopg [5, 50] k1 (fun kq v5 v50 w' => ∃ (x5_2 : List (S66)) (x50_2 : Int), v50 = .int .i64 x50_2 ∧ Aside0 (impl_diff.l1 kq l1 x5_2 l0 (l0.length : Int) x50_2 = some r) ∧ Aside0 (kq ≤ k1) ∧ Aside0 (Kd.R k66 66 w' w.heap.size (fun _ => True) v5 x5_2) ∧ Aside0 (Below w.heap.size w w'))
        case atStart => exact ⟨(x5_1), (0), vE, H', ⟨Nat.le_refl _⟩, ⟨by (with_reducible repeat (first | apply Kd.R_alloc | apply Kd.R_drewN | apply Kd.R_drew)); exact HO_5.out⟩, ⟨bW⟩⟩
        case round =>
          clear H'
          try clear c1
          try clear c2
          try clear p2
          try clear c3
          try clear c3b0
          try clear c4
          try clear c4b0
          try clear c5
          try clear c5b0
          try clear p6
          try clear c7
          try clear p7
          try clear q7
          try clear hx7
          try clear c8
          try clear c8b0
          try clear c9
          try clear c9b0
          try clear c10
          try clear c10b0
          try clear c10b1
          try clear c15
          try clear c21
          try clear hcz12_0
          try clear hcz12_1
          try clear hcz14_0
          try clear hcz14_1
          try clear hcz17_0
          try clear hcz17_1
          try clear hcz19_0
          try clear hcz19_1
          try clear hcz23_0
          try clear hcz23_1
          try clear hcz25_0
          try clear hcz25_1
          try clear hfz12_0
          try clear hfz12_1
          try clear hfz14_0
          try clear hfz14_1
          try clear hfz17_0
          try clear hfz17_1
          try clear hfz19_0
          try clear hfz19_1
          try clear hfz23_0
          try clear hfz23_1
          try clear hfz25_0
          try clear hfz25_1
          try clear hx721_0
          try clear hx721_1
          try clear hx725_0
          try clear hx725_1
          try clear p2
          try clear p721
          try clear p725
          try clear q721
          try clear q725
          obtain ⟨x5_2, x50_2, rfl, HA, HK2, HO_5, HB⟩ := hrel
          cases gk with
          | zero => exact absurd HA.out (by simp [impl_diff.l1])
          | succ k2 =>
            have H := HA.out
            clear HA
            simp only [impl_diff.l1] at H
            by_cases c27 : x50_2 < (l0.length : Int)
            · rw [if_pos c27] at H
              have c27b0 : decide (x50_2 < (l0.length : Int)) = true := decide_eq_true c27
              clear c27
              by_cases c28 : 0 ≤ x50_2
              · rw [if_pos c28] at H
                have c28b0 : decide (0 ≤ x50_2) = true := decide_eq_true c28
                clear c28
                by_cases c29 : x50_2 < (l0.length : Int)
                · rw [if_pos c29] at H
                  have c29b0 : decide (x50_2 < (l0.length : Int)) = true := decide_eq_true c29
                  clear c29
                  replace H := Option.bind_eq_some_iff.mp H
                  obtain ⟨⟨t734, t735⟩, A300, H⟩ := H
                  replace H : (if t735 = true then (impl_diff.l1 k2 l1 x5_2 l0 (l0.length : Int) (wrap64 (x50_2 + 1))) else (if x5_2.length < 4398046511104 then (impl_diff.l1 k2 l1 (x5_2 ++ [(⟨(rd_T35 l0 x50_2).f0, 0, true⟩ : S66)]) l0 (l0.length : Int) (wrap64 (x50_2 + 1))) else (none))) = some r := H
                  have A30 := Aside0.mk A300
                  clear A300
                  by_cases c31 : t735 = true
                  · subst c31
                    have H1 : (impl_diff.l1 k2 l1 x5_2 l0 (l0.length : Int) (wrap64 (x50_2 + 1))) = some r := by rw [if_pos rfl] at H; exact H
                    clear H
                    have H := H1
                    clear H1
                    have H' := Aside0.mk H
                    clear H
                    have p732 : 0 ≤ (x50_2 : Int) := odt
                    have q732 : x50_2 < (l0.length : Int) := odt
                    obtain ⟨ad732, e732, hx732_0, hx732_1⟩ := at_T35 HR0.out x50_2 p732 q732
                    cases e732
                    replace hx732_0 := (HB.out.cell (World.block_lt_of_cell? w _ hx732_0)).trans hx732_0
                    replace hx732_1 := (HB.out.cell (World.block_lt_of_cell? w _ hx732_1)).trans hx732_1
                    replace p732 := eq_true p732
                    replace q732 := eq_true q732
                    go_wp2_with (first | ((with_reducible refine gate_dst (N := 11) rfl ?_); refine bE (N := 11) (cs := #[.string (⟨#[]⟩ : ByteArray), .int .i64 0]) (t := 35) ?_; intro gb733 hg w32 hbox hb; have n0_ := Aside0.mk (Kd.R_below (pR HO_5) hb); have n1_ := Aside0.mk (below_step (w := w) bW hb); have n2_ := Aside0.mk (hbox); have n3_ := Aside0.mk (gS (w := w) hg); have n4_ := n3_; clear HO_5; clear HB; have HO_5 := n0_; have HB := n1_; have BK733 := n2_; have GW733 := n3_; have GE733 := n4_; clear n0_ n1_ n2_ n3_ n4_; clear hb hbox hg; obtain ⟨hcz33_0, hcz33_1⟩ := cz2 BK733; obtain ⟨hfz33_0, hfz33_1⟩ := fz2 BK733) | (go_at_call 46; (with_reducible refine (impl_find.calls _ _ l1 ((rd_T35 l0 x50_2).f0) t734 true _ ?side1 ?side2 A30.out).mono ?_); (case side1 => exact Kd.C_below HR1.out bW); (case side2 => exact HC1.out); rintro e w34 ⟨rfl, hb⟩; have n0_ := Aside0.mk (Kd.R_below (by (with_reducible repeat (first | apply Kd.R_alloc | apply Kd.R_drewN | apply Kd.R_drew)); exact (Kd.R_mono (Kd.R_far (p := ⟨gb733, 1, none⟩) (Kd.R_far (p := ⟨gb733, 0, none⟩) (Kd.R_types HO_5.out BK733.out (by decide)) (fun _ hk => hk.2) (.string ((rd_T35 l0 x50_2).f0))) (fun _ hk => hk.2) (.int .i64 ((rd_T35 l0 x50_2).f1))) (fun _ h_ => h_.1))) hb); have n1_ := Aside0.mk (blk_below (g := gb733) (o := .cells #[.string ((rd_T35 l0 x50_2).f0), .int .i64 ((rd_T35 l0 x50_2).f1)] 35 (0, 0)) (by (with_reducible repeat (first | refine blk_drewN ?_ _ | refine blk_drew ?_ | refine blk_alloc ?_ _)); refine blk_put (cs := #[.string ((rd_T35 l0 x50_2).f0), .int .i64 0]) ?_ 1 _ rfl; (with_reducible repeat (first | refine blk_drewN ?_ _ | refine blk_drew ?_ | refine blk_alloc ?_ _)); refine blk_put (cs := #[.string (⟨#[]⟩ : ByteArray), .int .i64 0]) ?_ 0 _ rfl; (with_reducible repeat (first | refine blk_drewN ?_ _ | refine blk_drew ?_ | refine blk_alloc ?_ _)); exact BK733.out) hb); have n2_ := Aside0.mk (below_step (w := w) bW hb); clear HO_5; clear BK733; clear HB; have HO_5 := n0_; have BK733 := n1_; have HB := n2_; clear n0_ n1_ n2_; (try clear hb); (try clear hb2); (try clear hk); (try clear hi)))
                    repeat (go_quiet (first | ((with_reducible refine gate_dst (N := 11) rfl ?_); refine bE (N := 11) (cs := #[.string (⟨#[]⟩ : ByteArray), .int .i64 0]) (t := 35) ?_; intro gb733 hg w32 hbox hb; have n0_ := Aside0.mk (Kd.R_below (pR HO_5) hb); have n1_ := Aside0.mk (below_step (w := w) bW hb); have n2_ := Aside0.mk (hbox); have n3_ := Aside0.mk (gS (w := w) hg); have n4_ := n3_; clear HO_5; clear HB; have HO_5 := n0_; have HB := n1_; have BK733 := n2_; have GW733 := n3_; have GE733 := n4_; clear n0_ n1_ n2_ n3_ n4_; clear hb hbox hg; obtain ⟨hcz33_0, hcz33_1⟩ := cz2 BK733; obtain ⟨hfz33_0, hfz33_1⟩ := fz2 BK733) | (go_at_call 46; (with_reducible refine (impl_find.calls _ _ l1 ((rd_T35 l0 x50_2).f0) t734 true _ ?side1 ?side2 A30.out).mono ?_); (case side1 => exact Kd.C_below HR1.out bW); (case side2 => exact HC1.out); rintro e w34 ⟨rfl, hb⟩; have n0_ := Aside0.mk (Kd.R_below (by (with_reducible repeat (first | apply Kd.R_alloc | apply Kd.R_drewN | apply Kd.R_drew)); exact (Kd.R_mono (Kd.R_far (p := ⟨gb733, 1, none⟩) (Kd.R_far (p := ⟨gb733, 0, none⟩) (Kd.R_types HO_5.out BK733.out (by decide)) (fun _ hk => hk.2) (.string ((rd_T35 l0 x50_2).f0))) (fun _ hk => hk.2) (.int .i64 ((rd_T35 l0 x50_2).f1))) (fun _ h_ => h_.1))) hb); have n1_ := Aside0.mk (blk_below (g := gb733) (o := .cells #[.string ((rd_T35 l0 x50_2).f0), .int .i64 ((rd_T35 l0 x50_2).f1)] 35 (0, 0)) (by (with_reducible repeat (first | refine blk_drewN ?_ _ | refine blk_drew ?_ | refine blk_alloc ?_ _)); refine blk_put (cs := #[.string ((rd_T35 l0 x50_2).f0), .int .i64 0]) ?_ 1 _ rfl; (with_reducible repeat (first | refine blk_drewN ?_ _ | refine blk_drew ?_ | refine blk_alloc ?_ _)); refine blk_put (cs := #[.string (⟨#[]⟩ : ByteArray), .int .i64 0]) ?_ 0 _ rfl; (with_reducible repeat (first | refine blk_drewN ?_ _ | refine blk_drew ?_ | refine blk_alloc ?_ _)); exact BK733.out) hb); have n2_ := Aside0.mk (below_step (w := w) bW hb); clear HO_5; clear BK733; clear HB; have HO_5 := n0_; have BK733 := n1_; have HB := n2_; clear n0_ n1_ n2_; (try clear hb); (try clear hb2); (try clear hk); (try clear hi))); try go_wp2_with (first | ((with_reducible refine gate_dst (N := 11) rfl ?_); refine bE (N := 11) (cs := #[.string (⟨#[]⟩ : ByteArray), .int .i64 0]) (t := 35) ?_; intro gb733 hg w32 hbox hb; have n0_ := Aside0.mk (Kd.R_below (pR HO_5) hb); have n1_ := Aside0.mk (below_step (w := w) bW hb); have n2_ := Aside0.mk (hbox); have n3_ := Aside0.mk (gS (w := w) hg); have n4_ := n3_; clear HO_5; clear HB; have HO_5 := n0_; have HB := n1_; have BK733 := n2_; have GW733 := n3_; have GE733 := n4_; clear n0_ n1_ n2_ n3_ n4_; clear hb hbox hg; obtain ⟨hcz33_0, hcz33_1⟩ := cz2 BK733; obtain ⟨hfz33_0, hfz33_1⟩ := fz2 BK733) | (go_at_call 46; (with_reducible refine (impl_find.calls _ _ l1 ((rd_T35 l0 x50_2).f0) t734 true _ ?side1 ?side2 A30.out).mono ?_); (case side1 => exact Kd.C_below HR1.out bW); (case side2 => exact HC1.out); rintro e w34 ⟨rfl, hb⟩; have n0_ := Aside0.mk (Kd.R_below (by (with_reducible repeat (first | apply Kd.R_alloc | apply Kd.R_drewN | apply Kd.R_drew)); exact (Kd.R_mono (Kd.R_far (p := ⟨gb733, 1, none⟩) (Kd.R_far (p := ⟨gb733, 0, none⟩) (Kd.R_types HO_5.out BK733.out (by decide)) (fun _ hk => hk.2) (.string ((rd_T35 l0 x50_2).f0))) (fun _ hk => hk.2) (.int .i64 ((rd_T35 l0 x50_2).f1))) (fun _ h_ => h_.1))) hb); have n1_ := Aside0.mk (blk_below (g := gb733) (o := .cells #[.string ((rd_T35 l0 x50_2).f0), .int .i64 ((rd_T35 l0 x50_2).f1)] 35 (0, 0)) (by (with_reducible repeat (first | refine blk_drewN ?_ _ | refine blk_drew ?_ | refine blk_alloc ?_ _)); refine blk_put (cs := #[.string ((rd_T35 l0 x50_2).f0), .int .i64 0]) ?_ 1 _ rfl; (with_reducible repeat (first | refine blk_drewN ?_ _ | refine blk_drew ?_ | refine blk_alloc ?_ _)); refine blk_put (cs := #[.string (⟨#[]⟩ : ByteArray), .int .i64 0]) ?_ 0 _ rfl; (with_reducible repeat (first | refine blk_drewN ?_ _ | refine blk_drew ?_ | refine blk_alloc ?_ _)); exact BK733.out) hb); have n2_ := Aside0.mk (below_step (w := w) bW hb); clear HO_5; clear BK733; clear HB; have HO_5 := n0_; have BK733 := n1_; have HB := n2_; clear n0_ n1_ n2_; (try clear hb); (try clear hb2); (try clear hk); (try clear hi))))
                    go_roundg k2
                    case measure => have := HK1.out; have := HK2.out; omega
                    case rel => exact ⟨(x5_2), (wrap64 (x50_2 + 1)), vE, H', ⟨by have := HK1.out; have := HK2.out; omega⟩, ⟨by (with_reducible repeat (first | apply Kd.R_alloc | apply Kd.R_drewN | apply Kd.R_drew)); exact HO_5.out⟩, ⟨bW⟩⟩
                  · replace c31 := Bool.eq_false_iff.mpr c31
                    subst c31
                    have H1 : (if x5_2.length < 4398046511104 then (impl_diff.l1 k2 l1 (x5_2 ++ [(⟨(rd_T35 l0 x50_2).f0, 0, true⟩ : S66)]) l0 (l0.length : Int) (wrap64 (x50_2 + 1))) else (none)) = some r := by rw [if_neg (show ¬ (false = true) by decide)] at H; exact H
                    clear H
                    have H := H1
                    clear H1
                    by_cases c35 : x5_2.length < 4398046511104
                    · rw [if_pos c35] at H
                      have LMc35 := Aside0.mk c35
                      clear c35
                      obtain ⟨y736, hy736⟩ : ∃ y_ : List (S66), y_ = (x5_2 ++ [(⟨(rd_T35 l0 x50_2).f0, 0, true⟩ : S66)]) := ⟨_, rfl⟩
                      replace H : (impl_diff.l1 k2 l1 y736 l0 (l0.length : Int) (wrap64 (x50_2 + 1))) = some r := by first | (rw [hy736]; with_reducible exact H) | (have H2_ := (Option.bind_some _ _).symm.trans H; rw [hy736]; with_reducible exact H2_) | (have H2_ := (Option.bind_some _ _).symm.trans H; with_reducible exact H2_) | with_reducible exact H | (rw [hy736]; exact H) | exact H
                      have Ny736 := Aside0.mk hy736
                      clear hy736
                      have H' := Aside0.mk H
                      clear H
                      have p732 : 0 ≤ (x50_2 : Int) := odt
                      have q732 : x50_2 < (l0.length : Int) := odt
                      obtain ⟨ad732, e732, hx732_0, hx732_1⟩ := at_T35 HR0.out x50_2 p732 q732
                      cases e732
                      replace hx732_0 := (HB.out.cell (World.block_lt_of_cell? w _ hx732_0)).trans hx732_0
                      replace hx732_1 := (HB.out.cell (World.block_lt_of_cell? w _ hx732_1)).trans hx732_1
                      replace p732 := eq_true p732
                      replace q732 := eq_true q732
                      go_wp2_with (first | ((with_reducible refine gate_dst (N := 11) rfl ?_); refine bE (N := 11) (cs := #[.string (⟨#[]⟩ : ByteArray), .int .i64 0]) (t := 35) ?_; intro gb733 hg w36 hbox hb; have n0_ := Aside0.mk (Kd.R_below (pR HO_5) hb); have n1_ := Aside0.mk (below_step (w := w) bW hb); have n2_ := Aside0.mk (hbox); have n3_ := Aside0.mk (gS (w := w) hg); have n4_ := n3_; clear HO_5; clear HB; have HO_5 := n0_; have HB := n1_; have BK733 := n2_; have GW733 := n3_; have GE733 := n4_; clear n0_ n1_ n2_ n3_ n4_; clear hb hbox hg; obtain ⟨hcz37_0, hcz37_1⟩ := cz2 BK733; obtain ⟨hfz37_0, hfz37_1⟩ := fz2 BK733) | (go_at_call 46; (with_reducible refine (impl_find.calls _ _ l1 ((rd_T35 l0 x50_2).f0) t734 false _ ?side1 ?side2 A30.out).mono ?_); (case side1 => exact Kd.C_below HR1.out bW); (case side2 => exact HC1.out); rintro e w38 ⟨rfl, hb⟩; have n0_ := Aside0.mk (Kd.R_below (by (with_reducible repeat (first | apply Kd.R_alloc | apply Kd.R_drewN | apply Kd.R_drew)); exact (Kd.R_mono (Kd.R_far (p := ⟨gb733, 1, none⟩) (Kd.R_far (p := ⟨gb733, 0, none⟩) (Kd.R_types HO_5.out BK733.out (by decide)) (fun _ hk => hk.2) (.string ((rd_T35 l0 x50_2).f0))) (fun _ hk => hk.2) (.int .i64 ((rd_T35 l0 x50_2).f1))) (fun _ h_ => h_.1))) hb); have n1_ := Aside0.mk (blk_below (g := gb733) (o := .cells #[.string ((rd_T35 l0 x50_2).f0), .int .i64 ((rd_T35 l0 x50_2).f1)] 35 (0, 0)) (by (with_reducible repeat (first | refine blk_drewN ?_ _ | refine blk_drew ?_ | refine blk_alloc ?_ _)); refine blk_put (cs := #[.string ((rd_T35 l0 x50_2).f0), .int .i64 0]) ?_ 1 _ rfl; (with_reducible repeat (first | refine blk_drewN ?_ _ | refine blk_drew ?_ | refine blk_alloc ?_ _)); refine blk_put (cs := #[.string (⟨#[]⟩ : ByteArray), .int .i64 0]) ?_ 0 _ rfl; (with_reducible repeat (first | refine blk_drewN ?_ _ | refine blk_drew ?_ | refine blk_alloc ?_ _)); exact BK733.out) hb); have n2_ := Aside0.mk (below_step (w := w) bW hb); clear HO_5; clear BK733; clear HB; have HO_5 := n0_; have BK733 := n1_; have HB := n2_; clear n0_ n1_ n2_; (try clear hb); (try clear hb2); (try clear hk); (try clear hi); obtain ⟨hcz39_0, hcz39_1⟩ := cz2 BK733; obtain ⟨hfz39_0, hfz39_1⟩ := fz2 BK733) | ((with_reducible refine gate_builtin (b := .append) (xs := #[.tmp 63, .tmp 67]) rfl ?_); at_builtin; refine Kd.R_append k66 (w0 := w) w.heap.size rfl (.tmp 63) (.tmp 67) 54 66 (.agg #[(.string ⟨#[]⟩), (.int .i64 0), (.bool false)]) 32 rfl Try.underlying54 info66 rfl (by decide) (by omega) u5 x5_2 (⟨(rd_T35 l0 x50_2).f0, 0, true⟩ : S66) [.string ((rd_T35 l0 x50_2).f0), .int .i64 0, .bool true] (fun _ => True) (fun _ => False) rfl rfl ?aP (fun _ hk => hk.elim) ?aF ?aO ?aB ?aS ?aL ?_; (case aP => exact k66_mkM _ _ _ (⟨(rd_T35 l0 x50_2).f0, 0, true⟩ : S66)); (case aB => exact bW); (case aF => exact (fun _ _ => trivial)); (case aO => exact (pR HO_5)); (case aS => exact (below_size (w := w) bW)); (case aL => have := LMc35.out; omega); intro v737 w40 ho hb hg hat; rw [← Ny736.out] at ho; have n0_ := Aside0.mk (blk_grown (g := gb733) (o := .cells #[.string ((rd_T35 l0 x50_2).f0), .int .i64 ((rd_T35 l0 x50_2).f1)] 35 (0, 0)) (kB BK733) hg (Kd.R_ne HO_5.out BK733.out (by decide))); have n1_ := Aside0.mk (hb); have n2_ := Aside0.mk (ho); clear BK733; clear HB; clear HO_5; have BK733 := n0_; have HB := n1_; have HO738 := n2_; clear n0_ n1_ n2_; clear ho hb hg hat))
                      repeat (go_quiet (first | ((with_reducible refine gate_dst (N := 11) rfl ?_); refine bE (N := 11) (cs := #[.string (⟨#[]⟩ : ByteArray), .int .i64 0]) (t := 35) ?_; intro gb733 hg w36 hbox hb; have n0_ := Aside0.mk (Kd.R_below (pR HO_5) hb); have n1_ := Aside0.mk (below_step (w := w) bW hb); have n2_ := Aside0.mk (hbox); have n3_ := Aside0.mk (gS (w := w) hg); have n4_ := n3_; clear HO_5; clear HB; have HO_5 := n0_; have HB := n1_; have BK733 := n2_; have GW733 := n3_; have GE733 := n4_; clear n0_ n1_ n2_ n3_ n4_; clear hb hbox hg; obtain ⟨hcz37_0, hcz37_1⟩ := cz2 BK733; obtain ⟨hfz37_0, hfz37_1⟩ := fz2 BK733) | (go_at_call 46; (with_reducible refine (impl_find.calls _ _ l1 ((rd_T35 l0 x50_2).f0) t734 false _ ?side1 ?side2 A30.out).mono ?_); (case side1 => exact Kd.C_below HR1.out bW); (case side2 => exact HC1.out); rintro e w38 ⟨rfl, hb⟩; have n0_ := Aside0.mk (Kd.R_below (by (with_reducible repeat (first | apply Kd.R_alloc | apply Kd.R_drewN | apply Kd.R_drew)); exact (Kd.R_mono (Kd.R_far (p := ⟨gb733, 1, none⟩) (Kd.R_far (p := ⟨gb733, 0, none⟩) (Kd.R_types HO_5.out BK733.out (by decide)) (fun _ hk => hk.2) (.string ((rd_T35 l0 x50_2).f0))) (fun _ hk => hk.2) (.int .i64 ((rd_T35 l0 x50_2).f1))) (fun _ h_ => h_.1))) hb); have n1_ := Aside0.mk (blk_below (g := gb733) (o := .cells #[.string ((rd_T35 l0 x50_2).f0), .int .i64 ((rd_T35 l0 x50_2).f1)] 35 (0, 0)) (by (with_reducible repeat (first | refine blk_drewN ?_ _ | refine blk_drew ?_ | refine blk_alloc ?_ _)); refine blk_put (cs := #[.string ((rd_T35 l0 x50_2).f0), .int .i64 0]) ?_ 1 _ rfl; (with_reducible repeat (first | refine blk_drewN ?_ _ | refine blk_drew ?_ | refine blk_alloc ?_ _)); refine blk_put (cs := #[.string (⟨#[]⟩ : ByteArray), .int .i64 0]) ?_ 0 _ rfl; (with_reducible repeat (first | refine blk_drewN ?_ _ | refine blk_drew ?_ | refine blk_alloc ?_ _)); exact BK733.out) hb); have n2_ := Aside0.mk (below_step (w := w) bW hb); clear HO_5; clear BK733; clear HB; have HO_5 := n0_; have BK733 := n1_; have HB := n2_; clear n0_ n1_ n2_; (try clear hb); (try clear hb2); (try clear hk); (try clear hi); obtain ⟨hcz39_0, hcz39_1⟩ := cz2 BK733; obtain ⟨hfz39_0, hfz39_1⟩ := fz2 BK733) | ((with_reducible refine gate_builtin (b := .append) (xs := #[.tmp 63, .tmp 67]) rfl ?_); at_builtin; refine Kd.R_append k66 (w0 := w) w.heap.size rfl (.tmp 63) (.tmp 67) 54 66 (.agg #[(.string ⟨#[]⟩), (.int .i64 0), (.bool false)]) 32 rfl Try.underlying54 info66 rfl (by decide) (by omega) u5 x5_2 (⟨(rd_T35 l0 x50_2).f0, 0, true⟩ : S66) [.string ((rd_T35 l0 x50_2).f0), .int .i64 0, .bool true] (fun _ => True) (fun _ => False) rfl rfl ?aP (fun _ hk => hk.elim) ?aF ?aO ?aB ?aS ?aL ?_; (case aP => exact k66_mkM _ _ _ (⟨(rd_T35 l0 x50_2).f0, 0, true⟩ : S66)); (case aB => exact bW); (case aF => exact (fun _ _ => trivial)); (case aO => exact (pR HO_5)); (case aS => exact (below_size (w := w) bW)); (case aL => have := LMc35.out; omega); intro v737 w40 ho hb hg hat; rw [← Ny736.out] at ho; have n0_ := Aside0.mk (blk_grown (g := gb733) (o := .cells #[.string ((rd_T35 l0 x50_2).f0), .int .i64 ((rd_T35 l0 x50_2).f1)] 35 (0, 0)) (kB BK733) hg (Kd.R_ne HO_5.out BK733.out (by decide))); have n1_ := Aside0.mk (hb); have n2_ := Aside0.mk (ho); clear BK733; clear HB; clear HO_5; have BK733 := n0_; have HB := n1_; have HO738 := n2_; clear n0_ n1_ n2_; clear ho hb hg hat)); try go_wp2_with (first | ((with_reducible refine gate_dst (N := 11) rfl ?_); refine bE (N := 11) (cs := #[.string (⟨#[]⟩ : ByteArray), .int .i64 0]) (t := 35) ?_; intro gb733 hg w36 hbox hb; have n0_ := Aside0.mk (Kd.R_below (pR HO_5) hb); have n1_ := Aside0.mk (below_step (w := w) bW hb); have n2_ := Aside0.mk (hbox); have n3_ := Aside0.mk (gS (w := w) hg); have n4_ := n3_; clear HO_5; clear HB; have HO_5 := n0_; have HB := n1_; have BK733 := n2_; have GW733 := n3_; have GE733 := n4_; clear n0_ n1_ n2_ n3_ n4_; clear hb hbox hg; obtain ⟨hcz37_0, hcz37_1⟩ := cz2 BK733; obtain ⟨hfz37_0, hfz37_1⟩ := fz2 BK733) | (go_at_call 46; (with_reducible refine (impl_find.calls _ _ l1 ((rd_T35 l0 x50_2).f0) t734 false _ ?side1 ?side2 A30.out).mono ?_); (case side1 => exact Kd.C_below HR1.out bW); (case side2 => exact HC1.out); rintro e w38 ⟨rfl, hb⟩; have n0_ := Aside0.mk (Kd.R_below (by (with_reducible repeat (first | apply Kd.R_alloc | apply Kd.R_drewN | apply Kd.R_drew)); exact (Kd.R_mono (Kd.R_far (p := ⟨gb733, 1, none⟩) (Kd.R_far (p := ⟨gb733, 0, none⟩) (Kd.R_types HO_5.out BK733.out (by decide)) (fun _ hk => hk.2) (.string ((rd_T35 l0 x50_2).f0))) (fun _ hk => hk.2) (.int .i64 ((rd_T35 l0 x50_2).f1))) (fun _ h_ => h_.1))) hb); have n1_ := Aside0.mk (blk_below (g := gb733) (o := .cells #[.string ((rd_T35 l0 x50_2).f0), .int .i64 ((rd_T35 l0 x50_2).f1)] 35 (0, 0)) (by (with_reducible repeat (first | refine blk_drewN ?_ _ | refine blk_drew ?_ | refine blk_alloc ?_ _)); refine blk_put (cs := #[.string ((rd_T35 l0 x50_2).f0), .int .i64 0]) ?_ 1 _ rfl; (with_reducible repeat (first | refine blk_drewN ?_ _ | refine blk_drew ?_ | refine blk_alloc ?_ _)); refine blk_put (cs := #[.string (⟨#[]⟩ : ByteArray), .int .i64 0]) ?_ 0 _ rfl; (with_reducible repeat (first | refine blk_drewN ?_ _ | refine blk_drew ?_ | refine blk_alloc ?_ _)); exact BK733.out) hb); have n2_ := Aside0.mk (below_step (w := w) bW hb); clear HO_5; clear BK733; clear HB; have HO_5 := n0_; have BK733 := n1_; have HB := n2_; clear n0_ n1_ n2_; (try clear hb); (try clear hb2); (try clear hk); (try clear hi); obtain ⟨hcz39_0, hcz39_1⟩ := cz2 BK733; obtain ⟨hfz39_0, hfz39_1⟩ := fz2 BK733) | ((with_reducible refine gate_builtin (b := .append) (xs := #[.tmp 63, .tmp 67]) rfl ?_); at_builtin; refine Kd.R_append k66 (w0 := w) w.heap.size rfl (.tmp 63) (.tmp 67) 54 66 (.agg #[(.string ⟨#[]⟩), (.int .i64 0), (.bool false)]) 32 rfl Try.underlying54 info66 rfl (by decide) (by omega) u5 x5_2 (⟨(rd_T35 l0 x50_2).f0, 0, true⟩ : S66) [.string ((rd_T35 l0 x50_2).f0), .int .i64 0, .bool true] (fun _ => True) (fun _ => False) rfl rfl ?aP (fun _ hk => hk.elim) ?aF ?aO ?aB ?aS ?aL ?_; (case aP => exact k66_mkM _ _ _ (⟨(rd_T35 l0 x50_2).f0, 0, true⟩ : S66)); (case aB => exact bW); (case aF => exact (fun _ _ => trivial)); (case aO => exact (pR HO_5)); (case aS => exact (below_size (w := w) bW)); (case aL => have := LMc35.out; omega); intro v737 w40 ho hb hg hat; rw [← Ny736.out] at ho; have n0_ := Aside0.mk (blk_grown (g := gb733) (o := .cells #[.string ((rd_T35 l0 x50_2).f0), .int .i64 ((rd_T35 l0 x50_2).f1)] 35 (0, 0)) (kB BK733) hg (Kd.R_ne HO_5.out BK733.out (by decide))); have n1_ := Aside0.mk (hb); have n2_ := Aside0.mk (ho); clear BK733; clear HB; clear HO_5; have BK733 := n0_; have HB := n1_; have HO738 := n2_; clear n0_ n1_ n2_; clear ho hb hg hat)))
                      go_roundg k2
                      case measure => have := HK1.out; have := HK2.out; omega
                      case rel => exact ⟨(y736), (wrap64 (x50_2 + 1)), vE, H', ⟨by have := HK1.out; have := HK2.out; omega⟩, ⟨by (with_reducible repeat (first | apply Kd.R_alloc | apply Kd.R_drewN | apply Kd.R_drew)); exact HO738.out⟩, ⟨bW⟩⟩
                    · rw [if_neg c35] at H
                      exact absurd H (by simp)
                · rw [if_neg c29] at H
                  exact absurd H (by simp)
              · rw [if_neg c28] at H
                exact absurd H (by simp)
            · rw [if_neg c27] at H
              have c27b0 : decide (x50_2 < (l0.length : Int)) = false := decide_eq_false c27
              clear c27
              replace H := Option.bind_eq_some_iff.mp H
              obtain ⟨t739, A410, H⟩ := H
              replace H : (some t739) = some r := H
              have A41 := Aside0.mk A410
              clear A410
              obtain rfl := Option.some.inj H
              obtain ⟨Ao42, co42, eo42⟩ := Kd.R_slice HO_5.out
              subst eo42
              go_wp2_with (first | (go_at_call 107; (with_reducible refine (sort_Edit.calls (fun k_ => some k_ = (.slice Ao42 x5_2.length co42 : Value).ownBlock) (.slice Ao42 x5_2.length co42) x5_2 t739 w _ ?side1 ?side2 A41.out).mono ?_); (case side1 => repeat (first | (with_reducible first | exact HB.out | apply below_alloc | apply pw_below_drewN | apply below_drew1) | exact HB.out)); (case side2 => exact Kd.R_tight rfl HO_5.out); rintro e w43 ⟨rfl, hy0, hb, hkp⟩; have n0_ := Aside0.mk (Kd.R_reok rfl hy0 (fun k_ e_ => HO_5.out.1 k_ e_)); have n1_ := Aside0.mk (hb); clear HO_5; clear HB; have HO_5 := n0_; have HB := n1_; clear n0_ n1_; (try clear hb); (try clear hkp); (try clear hy0)))
              repeat (go_quiet (first | (go_at_call 107; (with_reducible refine (sort_Edit.calls (fun k_ => some k_ = (.slice Ao42 x5_2.length co42 : Value).ownBlock) (.slice Ao42 x5_2.length co42) x5_2 t739 w _ ?side1 ?side2 A41.out).mono ?_); (case side1 => repeat (first | (with_reducible first | exact HB.out | apply below_alloc | apply pw_below_drewN | apply below_drew1) | exact HB.out)); (case side2 => exact Kd.R_tight rfl HO_5.out); rintro e w43 ⟨rfl, hy0, hb, hkp⟩; have n0_ := Aside0.mk (Kd.R_reok rfl hy0 (fun k_ e_ => HO_5.out.1 k_ e_)); have n1_ := Aside0.mk (hb); clear HO_5; clear HB; have HO_5 := n0_; have HB := n1_; clear n0_ n1_; (try clear hb); (try clear hkp); (try clear hy0))); try go_wp2_with (first | (go_at_call 107; (with_reducible refine (sort_Edit.calls (fun k_ => some k_ = (.slice Ao42 x5_2.length co42 : Value).ownBlock) (.slice Ao42 x5_2.length co42) x5_2 t739 w _ ?side1 ?side2 A41.out).mono ?_); (case side1 => repeat (first | (with_reducible first | exact HB.out | apply below_alloc | apply pw_below_drewN | apply below_drew1) | exact HB.out)); (case side2 => exact Kd.R_tight rfl HO_5.out); rintro e w43 ⟨rfl, hy0, hb, hkp⟩; have n0_ := Aside0.mk (Kd.R_reok rfl hy0 (fun k_ e_ => HO_5.out.1 k_ e_)); have n1_ := Aside0.mk (hb); clear HO_5; clear HB; have HO_5 := n0_; have HB := n1_; clear n0_ n1_; (try clear hb); (try clear hkp); (try clear hy0))))
              go_ret
              exact ⟨_, by first | rfl | (simp [errW_none, errW_some] <;> rfl) | (simp [*, errW_none, errW_some] <;> rfl), by (with_reducible repeat (first | apply Kd.R_alloc | apply Kd.R_drewN | apply Kd.R_drew)); exact HO_5.out, bW⟩
end Go.Proofs.Ytkmjmgkpcomldaa.Q
end

section
namespace Go.Proofs.Ytkmjmgkpcomldaa.Q
open Go.RowKit Go.Proofs.YtkmjmgkpcomldaaW.PrintWords Go.Proofs.YtkmjmgkpcomldaaW.PrintLast Go.Proofs.YtkmjmgkpcomldaaW.PrintMore
attribute [local go_sem] max2_int min2_int max_two min_two max_three min_three max_four min_four   -- for this text's walks alone
set_option linter.unusedVariables false
set_option linter.unusedSimpArgs false
attribute [local go_sem] bin_leq bin_gtr bin_geq
def lastE (L : List S66) (key : ByteArray) : Option S66 := L.foldl (fun a e => if e.f0 = key then some e else a) none
def hasE (L : List S66) (key : ByteArray) : Bool := (lastE L key).isSome
def gotE (L : List S66) (key : ByteArray) : S66 := (lastE L key).getD ⟨⟨#[]⟩, 0, false⟩
def heldR (v : Value) : Option (DataW Value × List MemPlace) := some (.held v, [])
def ediV (e : S66) : Value := .agg #[.string e.f0, .int .i64 e.f1, .bool e.f2]
def mapD (L : List S66) : DataW Value := L.foldl (fun D e => D.put (.string e.f0.data.toList) (.held (ediV e))) (.map [])
def MapE (w : World) (B n : Nat) (L : List S66) : Prop := w.ownsMap Try.prog 9 heldR B n (mapD L)
theorem lastE_snoc (L : List S66) (e : S66) (key : ByteArray) : lastE (L ++ [e]) key = if e.f0 = key then some e else lastE L key := by simp [lastE, List.foldl_append]
theorem mapD_snoc (L : List S66) (e : S66) : mapD (L ++ [e]) = (mapD L).put (.string e.f0.data.toList) (.held (ediV e)) := by simp [mapD, List.foldl_append]
theorem mapD_all (m : Nat) : ∀ L : List S66, L.length = m → Go.Maps.IsMap (mapD L) ∧ ∀ key : ByteArray, Go.Maps.has (mapD L) (.string key.data.toList) = hasE L key ∧ ∀ z, (mapD L).atKey (.string key.data.toList) (.held z) = .held (match lastE L key with | some x => ediV x | none => z) := by
  induction m with
  | zero =>
    intro L hL
    obtain rfl := List.eq_nil_of_length_eq_zero hL
    exact ⟨⟨[], rfl⟩, fun key => ⟨rfl, fun z => rfl⟩⟩
  | succ m ih =>
    intro L hL
    have hne : L ≠ [] := by intro h; rw [h] at hL; simp at hL
    obtain ⟨I, e, rfl⟩ : ∃ I e, L = I ++ [e] := ⟨L.dropLast, L.getLast hne, (List.dropLast_concat_getLast hne).symm⟩
    obtain ⟨h1, h2⟩ := ih I (by simpa using hL)
    rw [mapD_snoc]
    refine ⟨h1.put _ _, fun key => ?_⟩
    rw [lastE_snoc]
    unfold hasE
    rw [lastE_snoc]
    by_cases hk : e.f0 = key
    · subst hk
      refine ⟨by rw [Go.Maps.has_put_same h1 (by trivial), if_pos rfl]; rfl, fun z => ?_⟩
      rw [Go.Maps.atKey_put_same h1 (by trivial), if_pos rfl]
    · have hne2 : (Lit.string key.data.toList) ≠ Lit.string e.f0.data.toList := by
        intro h
        injection h with h
        apply hk
        have h5 : e.f0.data = key.data := Array.ext' h.symm
        cases hA : e.f0
        cases hB : key
        rw [hA, hB] at h5
        exact congrArg ByteArray.mk h5
      refine ⟨by rw [Go.Maps.has_put_other hne2, if_neg hk]; exact (h2 key).1, fun z => ?_⟩
      rw [Go.Maps.atKey_put_other hne2, if_neg hk]
      exact (h2 key).2 z
theorem MapE_made (w : World) : MapE (w.alloc (.map #[] 0)) w.heap.size 0 [] := World.ownsMap_made w _ _ _
theorem MapE_lt {w : World} {B n : Nat} {L : List S66} (h : MapE w B n L) : B < w.heap.size := World.ownsMap.lt h
theorem MapE_alloc {w : World} {B n : Nat} {L : List S66} (h : MapE w B n L) (o : Obj) : MapE (w.alloc o) B n L := World.ownsMap.alloc h o
theorem MapE_grown {w w' : World} {B n : Nat} {L : List S66} {row : Option Nat} (h : MapE w B n L) (hg : w.grownBy w' row) (hne : some B ≠ row) : MapE w' B n L := World.ownsMap.kept h hg hne
theorem MapE_below {w w' : World} {B n : Nat} {L : List S66} (h : MapE w B n L) (hb : Below w.heap.size w w') : MapE w' B n L := World.ownsMap.kept h (grown_of_below hb none) (by simp)
theorem zeroEd (w : World) : (zeroValue 66).run Try.prog w = .ok (.agg #[.string ⟨#[]⟩, .int .i64 0, .bool false]) w := Try.zeroValue66 w
section
variable (w : World) {ops : Array Oper} {rest : List Oper} {o : Oper} {a : Act} {Q : Exit → Act → World → Prop}
theorem wpList_lookup_E (hg : o.guard = none) (m x : Operand) (hop : o.op = Op.lookup 106 m x true) (B n : Nat) (L : List S66) (hm : a.eval m = .map (some B)) (hown : MapE w B n L) (key : ByteArray) (hx : a.eval x = .string key) (hk : key.size ≤ maxLen)
    (y : S66) (b : Bool) (hy : gotE L key = y) (hb : hasE L key = b)
    (hK : wpList Try.prog ops Q rest (a.put o.dst (.tuple #[.agg #[.string y.f0, .int .i64 y.f1, .bool y.f2], .bool b])) w) :
    wpList Try.prog ops Q (o :: rest) a w :=
  wpList_lookup_own_ok w hg m x _ hop 9 66 (Go.Maps.string_keyed Try.underlying9) Try.underlying106 heldR (zeroEd w) _ [] rfl B n (mapD L) hm hown (.string key) (.string key.data.toList) hx (Go.WideMaps.keyOf_string_mk Try.underlying9 hk) (fun v ps hv => by
    obtain ⟨h1, h2⟩ := (mapD_all L.length L rfl).2 key
    rw [h2, heldR] at hv
    have e1 := congrArg Prod.fst (Option.some.inj hv)
    simp only at e1
    injection e1 with e2
    have e3 : v = .agg #[.string y.f0, .int .i64 y.f1, .bool y.f2] := by
      rw [e2, ← hy]
      unfold gotE
      cases lastE L key <;> rfl
    rw [e3, h1, hb]
    exact hK)
theorem wpList_update_E (hg : o.guard = none) (m x v : Operand) (hop : o.op = Op.mapUpdate 106 m x v) (B n : Nat) (L : List S66) (hm : a.eval m = .map (some B)) (hown : MapE w B n L) (hn : n < maxLen) (e : S66) (hx : a.eval x = .string e.f0) (hv : a.eval v = ediV e) (hk : e.f0.size ≤ maxLen)
    (hK : ∀ w', MapE w' B (n + 1) (L ++ [e]) → w.grownBy w' (some B) → wpList Try.prog ops Q rest (a.put o.dst undef) w') :
    wpList Try.prog ops Q (o :: rest) a w :=
  wpList_mapUpdate_own w hg m x v _ hop 9 66 (Go.Maps.string_keyed Try.underlying9) Try.underlying106 heldR B n (mapD L) hm hown hn (.string e.f0) (ediV e) (.string e.f0.data.toList) hx hv (Go.WideMaps.keyOf_string_mk Try.underlying9 hk) (.held (ediV e)) [] rfl (fun w' h1 h2 => hK w' (by unfold MapE; rw [mapD_snoc]; exact h1) h2)
end
def neE (x e : S66) : Bool := !(x.f0.toList == e.f0.toList) || (!(x.f1 == e.f1) || !(x.f2 == e.f2))
def mstep (L : List S66) (oc : List S66 × List ByteArray) (e : S66) : List S66 × List ByteArray :=
  if hasE L e.f0 = true then (if neE (gotE L e.f0) e = true then (oc.1, oc.2 ++ [e.f0]) else oc) else (oc.1 ++ [e], oc.2)
def mrg (L R : List S66) : List S66 × List ByteArray := R.foldl (mstep L) ([], [])
theorem mrg_take (L R : List S66) (i : Nat) (hi : i < R.length) : mrg L (R.take (i + 1)) = mstep L (mrg L (R.take i)) R[i] := by
  unfold mrg
  rw [List.take_succ_eq_append_getElem hi, List.foldl_append]
  rfl
theorem mrg_len (L R : List S66) (i : Nat) (hi : i ≤ R.length) : (mrg L (R.take i)).1.length ≤ i ∧ (mrg L (R.take i)).2.length ≤ i := by
  induction i with
  | zero => simp [mrg]
  | succ i ih =>
    have h := ih (by omega)
    rw [mrg_take L R i hi]
    unfold mstep
    split
    · split
      · simp only [List.length_append, List.length_cons, List.length_nil]; omega
      · omega
    · simp only [List.length_append, List.length_cons, List.length_nil]; omega
def small (L R : List S66) : Bool := (L ++ R).all (fun e => decide (e.f0.size ≤ 1000000)) && decide (L.length + R.length ≤ 1000000)
end Go.Proofs.Ytkmjmgkpcomldaa.Q
end

section
namespace Go.Proofs.Ytkmjmgkpcomldaa.Q
open Go.RowKit Go.Proofs.YtkmjmgkpcomldaaW.PrintWords Go.Proofs.YtkmjmgkpcomldaaW.PrintLast Go.Proofs.YtkmjmgkpcomldaaW.PrintMore
attribute [local go_sem] max2_int min2_int max_two min_two max_three min_three max_four min_four   -- for this text's walks alone
set_option linter.unusedVariables false
set_option linter.unusedSimpArgs false
attribute [local go_sem] bin_leq bin_gtr bin_geq
def impl_merge.f (k : Nat) (l0 : List (S35)) (l1 : List (S35)) (l2 : List (S35)) : Option ((List (S35)) × List ByteArray × Int) := (impl_diff.f k l0 l1).bind fun L => (impl_diff.f k l0 l2).bind fun R => if small L R = true then (if 0 < (mrg L R).2.length then some ([], (mrg L R).2, 11) else ((impl_edited.f k l1 (mrg L R).1).bind fun m => (impl_limited.f m).bind fun t => some (t.1, [], t.2))) else none
set_option maxHeartbeats 8000000 in
set_option maxRecDepth 100000 in
theorem impl_merge.calls (k : Nat) (A0 : Option Addr) (c0 : Nat) (l0 : List (S35)) (A1 : Option Addr) (c1 : Nat) (l1 : List (S35)) (A2 : Option Addr) (c2 : Nat) (l2 : List (S35)) (r1 : List (S35)) (r2 : List ByteArray) (r3 : Int) (w : World) (hr0 : Kd.C k35 w A0 l0.length l0) (hc0 : l0.length ≤ c0) (hr1 : Kd.C k35 w A1 l1.length l1) (hc1 : l1.length ≤ c1) (hr2 : Kd.C k35 w A2 l2.length l2) (hc2 : l2.length ≤ c2) (h : impl_merge.f k l0 l1 l2 = some (r1, r2, r3)) :
    Calls Try.prog 75 #[.slice A0 l0.length c0, .slice A1 l1.length c1, .slice A2 l2.length c2] w fun e w' => ∃ v0_ v1_ : Value, e = .returned (.tuple #[v0_, v1_, .int .i64 r3]) ∧ Kd.R k35 35 w' w.heap.size (fun _ => True) v0_ r1 ∧ Kd.R Kd.string 9 w' w.heap.size (fun _ => True) v1_ r2 ∧ Below w.heap.size w w' := by
  unfold impl_merge.f at h
  have HR0 := Aside0.mk hr0
  have HC0 := Aside0.mk hc0
  have HR1 := Aside0.mk hr1
  have HC1 := Aside0.mk hc1
  have HR2 := Aside0.mk hr2
  have HC2 := Aside0.mk hc2
  clear hr0 hc0 hr1 hc1 hr2 hc2
  obtain ⟨L, h1, h⟩ := Option.bind_eq_some_iff.mp h
  have A1_ := Aside0.mk h1
  clear h1
  obtain ⟨R, h2, h⟩ := Option.bind_eq_some_iff.mp h
  have A2_ := Aside0.mk h2
  clear h2
  by_cases hs : small L R = true
  case neg => rw [if_neg hs] at h; cases h
  rw [if_pos hs] at h
  have hsz : ∀ e : S66, e ∈ L ∨ e ∈ R → e.f0.size ≤ 1000000 := by
    unfold small at hs
    rw [Bool.and_eq_true, List.all_eq_true] at hs
    exact fun e he => of_decide_eq_true (hs.1 e (List.mem_append.mpr he))
  have hlen : L.length + R.length ≤ 1000000 := by
    unfold small at hs
    rw [Bool.and_eq_true] at hs
    exact of_decide_eq_true hs.2
  have HS := Aside0.mk hsz
  have HN := Aside0.mk hlen
  have H := Aside0.mk h
  clear hsz hlen hs h
  have hmm := @run_makeMap Try.prog
  have HM0 := Aside0.mk (MapE_made w)
  have hLb : L.length ≤ 1000000 := by have := HN.out; omega
  have hRb : R.length ≤ 1000000 := by have := HN.out; omega
  have HB := Aside0.mk (show Below w.heap.size w (w.alloc (.map #[] 0)) from below_alloc (Below.refl _ _) _)
  go_enter Try.func75, Try.ntmps75
  go_wp2_with (go_at_call 78; (with_reducible refine (impl_diff.calls k _ _ l0 _ _ l1 L _ ?s1 ?s2 ?s3 ?s4 A1_.out).mono ?_); (case s1 => exact Kd.C_below HR0.out HB.out); (case s2 => exact HC0.out); (case s3 => exact Kd.C_below HR1.out HB.out); (case s4 => exact HC1.out); rintro e w2 ⟨v9, rfl, ho0, hb⟩; have n0_ := Aside0.mk (Kd.R_mono (Kd.R_lower (Kd.R_bound ho0) (below_size (w := w) HB.out)) (fun k_ hk => (show k_ ≠ w.heap.size from fun e_ => by have h8 := hk.2.1; have h9 := MapE_lt HM0.out; rw [e_] at h8; omega))); have n1_ := Aside0.mk (MapE_below HM0.out hb); have n2_ := Aside0.mk (below_step (w := w) HB.out hb); clear HB HM0 ho0 hb; have HL := n0_; have HM := n1_; have HB := n2_; clear n0_ n1_ n2_; obtain ⟨A9, c9, e9⟩ := Kd.R_slice HL.out; subst e9)
  go_loopg [25] L.length (fun gk v25 w' => ∃ i : Nat, v25 = .int .i64 i ∧ i ≤ L.length ∧ L.length - i ≤ gk ∧ Aside0 (MapE w' w.heap.size i (L.take i)) ∧ Aside0 (Kd.R k66 66 w' w.heap.size (fun k_ => k_ ≠ w.heap.size) (.slice A9 L.length c9) L) ∧ Aside0 (Below w.heap.size w w'))
  case atStart => exact ⟨0, rfl, Nat.zero_le _, by omega, HM, HL, HB⟩
  case round =>
    clear HM HL HB
    obtain ⟨i, rfl, hi, hg, HM, HL, HB⟩ := hrel
    by_cases hlt : i < L.length
    · have hltz : (i : Int) < (L.length : Int) := by omega
      obtain ⟨ad, ead, hx0, hx1, hx2⟩ := at_T66 (Kd.R_reads' HL.out).2.2 (i : Int) (by omega) hltz
      have e1 : rd_T66 L (i : Int) = L[i] := by simp [rd_T66, List.getD_eq_getElem?_getD, List.getElem?_eq_getElem hlt]
      rw [e1] at hx0 hx1 hx2
      simp only [Int.toNat_natCast] at hx0 hx1 hx2
      have HZ := Aside0.mk (show (L[i]).f0.size ≤ maxLen from Nat.le_trans (HS.out _ (.inl (List.getElem_mem hlt))) (by unfold maxLen; decide))
      have HT := Aside0.mk (show L.take (i + 1) = L.take i ++ [L[i]] from List.take_succ_eq_append_getElem hlt)
      obtain ⟨y, hy⟩ : ∃ y, y = L[i] := ⟨_, rfl⟩
      rw [← hy] at hx0 hx1 hx2 HZ HT
      clear hy e1
      cases ead
      have HI := Aside0.mk (show i < maxLen by have := HN.out; unfold maxLen; omega)
      go_wp2_with (at_mapUpdate; refine wpList_update_E _ rfl _ _ _ rfl w.heap.size i (L.take i) rfl (MapE_alloc HM.out _) HI.out y rfl rfl HZ.out ?_; intro w1 hm1 hg1; rw [← HT.out] at hm1; have n0_ := Aside0.mk hm1; have n1_ := Aside0.mk (Kd.R_grown (Kd.R_alloc HL.out _) hg1 (fun k_ hk e_ => hk (by injection e_))); have n2_ := Aside0.mk (Below.grown (below_alloc HB.out _) hg1 (below_alloc HB.out _).size (fun k_ e_ => by injection e_ with e_; rw [← e_]; exact Nat.le_refl _)); clear HM HL HB hm1 hg1; have HM := n0_; have HL := n1_; have HB := n2_; clear n0_ n1_ n2_)
      go_roundg (L.length - (i + 1))
      case measure => omega
      case rel => exact ⟨i + 1, by go_num, by omega, Nat.le_refl _, HM, HL, HB⟩
    · have hltz : ¬ (i : Int) < (L.length : Int) := by omega
      obtain rfl : i = L.length := by omega
      have n0_ := Aside0.mk (show MapE wr w.heap.size L.length L from by have h_ := HM.out; rw [List.take_length] at h_; exact h_)
      clear HM
      have HM := n0_
      clear n0_
      go_wp2_with (go_at_call 78; (with_reducible refine (impl_diff.calls k _ _ l0 _ _ l2 R _ ?s1 ?s2 ?s3 ?s4 A2_.out).mono ?_); (case s1 => exact Kd.C_below HR0.out HB.out); (case s2 => exact HC0.out); (case s3 => exact Kd.C_below HR2.out HB.out); (case s4 => exact HC2.out); rintro e w3 ⟨v36, rfl, ho0, hb⟩; have n0_ := Aside0.mk (Kd.R_mono (Kd.R_lower (Kd.R_bound ho0) (below_size (w := w) HB.out)) (fun k_ hk => (show k_ ≠ w.heap.size from fun e_ => by have h8 := hk.2.1; have h9 := MapE_lt HM.out; rw [e_] at h8; omega))); have n1_ := Aside0.mk (MapE_below HM.out hb); have n2_ := Aside0.mk (below_step (w := w) HB.out hb); clear HB HM HL ho0 hb; have HL := n0_; have HM := n1_; have HB := n2_; clear n0_ n1_ n2_; obtain ⟨A36, c36, e36⟩ := Kd.R_slice HL.out; subst e36)
      have n0_ := Aside0.mk (Kd.R_mono HL.out (fun k_ hk => (⟨hk, by simp [Value.ownBlock]⟩ : k_ ≠ w.heap.size ∧ some k_ ≠ (Value.slice none 0 0).ownBlock)))
      clear HL
      have HR := n0_
      clear n0_
      go_loopg [12, 13, 38] R.length (fun gk v12 v13 v38 w' => ∃ j : Nat, v38 = .int .i64 j ∧ j ≤ R.length ∧ R.length - j ≤ gk ∧ Aside0 (MapE w' w.heap.size L.length L) ∧ Aside0 (Kd.R k66 66 w' w.heap.size (fun k_ => k_ ≠ w.heap.size ∧ some k_ ≠ (v12 : Value).ownBlock) (.slice A36 R.length c36) R) ∧ Aside0 (Kd.R k66 66 w' w.heap.size (fun k_ => k_ ≠ w.heap.size ∧ some k_ ≠ (.slice A36 R.length c36 : Value).ownBlock) v12 (mrg L (R.take j)).1) ∧ Aside0 (Kd.R Kd.string 9 w' w.heap.size (fun k_ => k_ ≠ w.heap.size) v13 (mrg L (R.take j)).2) ∧ Aside0 (Below w.heap.size w w'))
      case atStart => exact ⟨0, rfl, Nat.zero_le _, by omega, HM, HR, ⟨Kd.R_nil _ _ _ _ _⟩, ⟨Kd.R_nil _ _ _ _ _⟩, HB⟩
      case round =>
        clear HM HR HB
        obtain ⟨j, rfl, hj, hg2, HM, HR, HO, HC, HB⟩ := hrel
        by_cases hlt2 : j < R.length
        · have hltz2 : (j : Int) < (R.length : Int) := by omega
          obtain ⟨ad, ead, hx0, hx1, hx2⟩ := at_T66 (Kd.R_reads' HR.out).2.2 (j : Int) (by omega) hltz2
          have e1 : rd_T66 R (j : Int) = R[j] := by simp [rd_T66, List.getD_eq_getElem?_getD, List.getElem?_eq_getElem hlt2]
          rw [e1] at hx0 hx1 hx2
          simp only [Int.toNat_natCast] at hx0 hx1 hx2
          have HZ := Aside0.mk (show (R[j]).f0.size ≤ maxLen from Nat.le_trans (HS.out _ (.inr (List.getElem_mem hlt2))) (by unfold maxLen; decide))
          have HT := Aside0.mk (mrg_take L R j hlt2)
          obtain ⟨y, hy⟩ : ∃ y, y = R[j] := ⟨_, rfl⟩
          rw [← hy] at hx0 hx1 hx2 HZ HT
          clear hy e1
          cases ead
          have HLn := Aside0.mk (mrg_len L R j (Nat.le_of_lt hlt2))
          obtain ⟨o_, ho_⟩ : ∃ o_, o_ = (mrg L (R.take j)).1 := ⟨_, rfl⟩
          obtain ⟨c_, hc_⟩ : ∃ c_, c_ = (mrg L (R.take j)).2 := ⟨_, rfl⟩
          have HP := Aside0.mk (show mrg L (R.take j) = (o_, c_) by rw [ho_, hc_])
          rw [← ho_] at HO HLn
          rw [← hc_] at HC HLn
          clear ho_ hc_
          have HL1 := Aside0.mk HLn.out.1
          have HL2 := Aside0.mk HLn.out.2
          clear HLn
          obtain ⟨z_, hz_⟩ : ∃ z_, z_ = gotE L y.f0 := ⟨_, rfl⟩
          have HG := Aside0.mk hz_.symm
          clear hz_
          cases hh : hasE L y.f0 with
          | false =>
            have HH := Aside0.mk hh
            have HT2 := Aside0.mk (show mrg L (R.take (j + 1)) = (o_ ++ [y], c_) by rw [HT.out, HP.out, mstep, hh]; rfl)
            clear hh
            go_wp2_with (first | (at_lookup; refine wpList_lookup_E _ rfl _ _ rfl w.heap.size L.length L rfl (MapE_alloc HM.out _) y.f0 rfl HZ.out z_ false HG.out HH.out ?_) | ((with_reducible refine gate_builtin (b := .append) (xs := #[.tmp 52, .tmp 54]) rfl ?_); at_builtin; refine Kd.R_append k66 (w0 := w) w.heap.size rfl (.tmp 52) (.tmp 54) 54 66 (.agg #[(.string ⟨#[]⟩), (.int .i64 0), (.bool false)]) 32 rfl Try.underlying54 info66 rfl (by decide) (by omega) u12 o_ y [.string y.f0, .int .i64 y.f1, .bool y.f2] (fun k_ => k_ ≠ w.heap.size ∧ some k_ ≠ (.slice (some ad) R.length c36 : Value).ownBlock) (fun _ => False) rfl (by (go_simp; done)) ?aP (fun _ hk => hk.elim) ?aF ?aO ?aB ?aS ?aL ?_; (case aP => exact k66_mkM _ _ _ y); (case aB => exact below_alloc (below_alloc HB.out _) _); (case aF => exact fun k_ hk => ⟨(show k_ ≠ w.heap.size from fun e_ => by have h9 := MapE_lt HM.out; rw [e_] at hk; simp at hk; omega), Kd.fresh' (Kd.R_lt (Kd.R_alloc (Kd.R_alloc HR.out _) _)) k_ hk⟩); (case aO => exact Kd.R_alloc (Kd.R_alloc HO.out _) _); (case aS => exact below_size (w := w) (below_alloc (below_alloc HB.out _) _)); (case aL => have := HL1.out; omega); intro v1 w5 ho hb hg hat; have n0_ := Aside0.mk (MapE_grown (MapE_alloc (MapE_alloc HM.out _) _) hg (Kd.R_away HO.out (fun _ hk => hk.1))); have n1_ := Aside0.mk (Kd.R_after (ok := (fun k_ => k_ ≠ w.heap.size)) (Kd.R_alloc (Kd.R_alloc HR.out _) _) hg hat); have n2_ := Aside0.mk (Kd.R_over' (Kd.R_alloc (Kd.R_alloc HC.out _) _) (Kd.R_typed (Kd.R_alloc (Kd.R_alloc HO.out _) _)) (by decide) hg); have n3_ := Aside0.mk ho; have n4_ := Aside0.mk hb; clear HM HR HC HO HB ho hb hg hat; have HM := n0_; have HR := n1_; have HC := n2_; have HO := n3_; have HB := n4_; clear n0_ n1_ n2_ n3_ n4_))
            go_roundg (R.length - (j + 1))
            case measure => omega
            case rel => exact ⟨j + 1, by go_num, by omega, Nat.le_refl _, HM, HR, ⟨by rw [HT2.out]; exact HO.out⟩, ⟨by rw [HT2.out]; exact HC.out⟩, HB⟩
          | true =>
            have HH := Aside0.mk hh
            cases hd : neE z_ y with
            | false =>
              have HT2 := Aside0.mk (show mrg L (R.take (j + 1)) = (o_, c_) by rw [HT.out, HP.out, mstep, hh, HG.out, hd]; rfl)
              have hdb : (!(z_.f0.toList == y.f0.toList) || (!(z_.f1 == y.f1) || !(z_.f2 == y.f2))) = false := hd
              simp only [Bool.or_eq_false_iff, Bool.not_eq_false', beq_iff_eq] at hdb
              obtain ⟨he0, he1, he2⟩ := hdb
              have hzy : z_ = y := by
                cases z_
                cases y
                simp only at he0 he1 he2
                rw [toList_inj he0, he1, he2]
              clear hh hd he0 he1 he2
              subst hzy
              go_wp2_with ((at_lookup; refine wpList_lookup_E _ rfl _ _ rfl w.heap.size L.length L rfl (MapE_alloc HM.out _) z_.f0 rfl HZ.out z_ true HG.out HH.out ?_))
              go_roundg (R.length - (j + 1))
              case measure => omega
              case rel => exact ⟨j + 1, by go_num, by omega, Nat.le_refl _, ⟨MapE_alloc (MapE_alloc HM.out _) _⟩, ⟨Kd.R_alloc (Kd.R_alloc HR.out _) _⟩, ⟨by rw [HT2.out]; exact Kd.R_alloc (Kd.R_alloc HO.out _) _⟩, ⟨by rw [HT2.out]; exact Kd.R_alloc (Kd.R_alloc HC.out _) _⟩, ⟨below_alloc (below_alloc HB.out _) _⟩⟩
            | true =>
              have HT2 := Aside0.mk (show mrg L (R.take (j + 1)) = (o_, c_ ++ [y.f0]) by rw [HT.out, HP.out, mstep, hh, HG.out, hd]; rfl)
              have h3 : (¬ z_.f0.toList = y.f0.toList) ∨ (z_.f0.toList = y.f0.toList ∧ ¬ z_.f1 = y.f1) ∨ (z_.f0.toList = y.f0.toList ∧ z_.f1 = y.f1 ∧ ¬ z_.f2 = y.f2) := by
                by_cases q0 : z_.f0.toList = y.f0.toList
                · by_cases q1 : z_.f1 = y.f1
                  · by_cases q2 : z_.f2 = y.f2
                    · unfold neE at hd
                      rw [q0, q1, q2] at hd
                      simp at hd
                    · exact .inr (.inr ⟨q0, q1, q2⟩)
                  · exact .inr (.inl ⟨q0, q1⟩)
                · exact .inl q0
              clear hh hd
              rcases h3 with hq0 | ⟨hq0, hq1⟩ | ⟨hq0, hq1, hq2⟩
              · go_wp2_with (first | (at_lookup; refine wpList_lookup_E _ rfl _ _ rfl w.heap.size L.length L rfl (MapE_alloc HM.out _) y.f0 rfl HZ.out z_ true HG.out HH.out ?_) | ((with_reducible refine gate_builtin (b := .append) (xs := #[.tmp 60, .tmp 63]) rfl ?_); at_builtin; refine Kd.R_append Kd.string (w0 := w) w.heap.size rfl (.tmp 60) (.tmp 63) 36 9 (.string ⟨#[]⟩) 16 rfl Try.underlying36 info9 rfl (by decide) (by omega) u13 c_ y.f0 [.string y.f0] (fun k_ => k_ ≠ w.heap.size) (fun _ => False) rfl (by (go_simp; done)) ?aP (fun _ hk => hk.elim) ?aF ?aO ?aB ?aS ?aL ?_; (case aP => exact rfl); (case aB => exact below_alloc (below_alloc HB.out _) _); (case aF => exact fun k_ hk => (show k_ ≠ w.heap.size from fun e_ => by have h9 := MapE_lt HM.out; rw [e_] at hk; simp at hk; omega)); (case aO => exact Kd.R_alloc (Kd.R_alloc HC.out _) _); (case aS => exact below_size (w := w) (below_alloc (below_alloc HB.out _) _)); (case aL => have := HL2.out; omega); intro v1 w5 ho hb hg hat; have n0_ := Aside0.mk (MapE_grown (MapE_alloc (MapE_alloc HM.out _) _) hg (Kd.R_away HC.out (fun _ hk => hk))); have n1_ := Aside0.mk (Kd.R_over' (Kd.R_alloc (Kd.R_alloc HR.out _) _) (Kd.R_typed (Kd.R_alloc (Kd.R_alloc HC.out _) _)) (by decide) hg); have n2_ := Aside0.mk (Kd.R_over' (Kd.R_alloc (Kd.R_alloc HO.out _) _) (Kd.R_typed (Kd.R_alloc (Kd.R_alloc HC.out _) _)) (by decide) hg); have n3_ := Aside0.mk ho; have n4_ := Aside0.mk hb; clear HM HR HC HO HB ho hb hg hat; have HM := n0_; have HR := n1_; have HO := n2_; have HC := n3_; have HB := n4_; clear n0_ n1_ n2_ n3_ n4_))
                go_roundg (R.length - (j + 1))
                case measure => omega
                case rel => exact ⟨j + 1, by go_num, by omega, Nat.le_refl _, HM, HR, ⟨by rw [HT2.out]; exact HO.out⟩, ⟨by rw [HT2.out]; exact HC.out⟩, HB⟩
              · go_wp2_with (first | (at_lookup; refine wpList_lookup_E _ rfl _ _ rfl w.heap.size L.length L rfl (MapE_alloc HM.out _) y.f0 rfl HZ.out z_ true HG.out HH.out ?_) | ((with_reducible refine gate_builtin (b := .append) (xs := #[.tmp 60, .tmp 63]) rfl ?_); at_builtin; refine Kd.R_append Kd.string (w0 := w) w.heap.size rfl (.tmp 60) (.tmp 63) 36 9 (.string ⟨#[]⟩) 16 rfl Try.underlying36 info9 rfl (by decide) (by omega) u13 c_ y.f0 [.string y.f0] (fun k_ => k_ ≠ w.heap.size) (fun _ => False) rfl (by (go_simp; done)) ?aP (fun _ hk => hk.elim) ?aF ?aO ?aB ?aS ?aL ?_; (case aP => exact rfl); (case aB => exact below_alloc (below_alloc HB.out _) _); (case aF => exact fun k_ hk => (show k_ ≠ w.heap.size from fun e_ => by have h9 := MapE_lt HM.out; rw [e_] at hk; simp at hk; omega)); (case aO => exact Kd.R_alloc (Kd.R_alloc HC.out _) _); (case aS => exact below_size (w := w) (below_alloc (below_alloc HB.out _) _)); (case aL => have := HL2.out; omega); intro v1 w5 ho hb hg hat; have n0_ := Aside0.mk (MapE_grown (MapE_alloc (MapE_alloc HM.out _) _) hg (Kd.R_away HC.out (fun _ hk => hk))); have n1_ := Aside0.mk (Kd.R_over' (Kd.R_alloc (Kd.R_alloc HR.out _) _) (Kd.R_typed (Kd.R_alloc (Kd.R_alloc HC.out _) _)) (by decide) hg); have n2_ := Aside0.mk (Kd.R_over' (Kd.R_alloc (Kd.R_alloc HO.out _) _) (Kd.R_typed (Kd.R_alloc (Kd.R_alloc HC.out _) _)) (by decide) hg); have n3_ := Aside0.mk ho; have n4_ := Aside0.mk hb; clear HM HR HC HO HB ho hb hg hat; have HM := n0_; have HR := n1_; have HO := n2_; have HC := n3_; have HB := n4_; clear n0_ n1_ n2_ n3_ n4_))
                go_roundg (R.length - (j + 1))
                case measure => omega
                case rel => exact ⟨j + 1, by go_num, by omega, Nat.le_refl _, HM, HR, ⟨by rw [HT2.out]; exact HO.out⟩, ⟨by rw [HT2.out]; exact HC.out⟩, HB⟩
              · go_wp2_with (first | (at_lookup; refine wpList_lookup_E _ rfl _ _ rfl w.heap.size L.length L rfl (MapE_alloc HM.out _) y.f0 rfl HZ.out z_ true HG.out HH.out ?_) | ((with_reducible refine gate_builtin (b := .append) (xs := #[.tmp 60, .tmp 63]) rfl ?_); at_builtin; refine Kd.R_append Kd.string (w0 := w) w.heap.size rfl (.tmp 60) (.tmp 63) 36 9 (.string ⟨#[]⟩) 16 rfl Try.underlying36 info9 rfl (by decide) (by omega) u13 c_ y.f0 [.string y.f0] (fun k_ => k_ ≠ w.heap.size) (fun _ => False) rfl (by (go_simp; done)) ?aP (fun _ hk => hk.elim) ?aF ?aO ?aB ?aS ?aL ?_; (case aP => exact rfl); (case aB => exact below_alloc (below_alloc HB.out _) _); (case aF => exact fun k_ hk => (show k_ ≠ w.heap.size from fun e_ => by have h9 := MapE_lt HM.out; rw [e_] at hk; simp at hk; omega)); (case aO => exact Kd.R_alloc (Kd.R_alloc HC.out _) _); (case aS => exact below_size (w := w) (below_alloc (below_alloc HB.out _) _)); (case aL => have := HL2.out; omega); intro v1 w5 ho hb hg hat; have n0_ := Aside0.mk (MapE_grown (MapE_alloc (MapE_alloc HM.out _) _) hg (Kd.R_away HC.out (fun _ hk => hk))); have n1_ := Aside0.mk (Kd.R_over' (Kd.R_alloc (Kd.R_alloc HR.out _) _) (Kd.R_typed (Kd.R_alloc (Kd.R_alloc HC.out _) _)) (by decide) hg); have n2_ := Aside0.mk (Kd.R_over' (Kd.R_alloc (Kd.R_alloc HO.out _) _) (Kd.R_typed (Kd.R_alloc (Kd.R_alloc HC.out _) _)) (by decide) hg); have n3_ := Aside0.mk ho; have n4_ := Aside0.mk hb; clear HM HR HC HO HB ho hb hg hat; have HM := n0_; have HR := n1_; have HO := n2_; have HC := n3_; have HB := n4_; clear n0_ n1_ n2_ n3_ n4_))
                go_roundg (R.length - (j + 1))
                case measure => omega
                case rel => exact ⟨j + 1, by go_num, by omega, Nat.le_refl _, HM, HR, ⟨by rw [HT2.out]; exact HO.out⟩, ⟨by rw [HT2.out]; exact HC.out⟩, HB⟩
        · have hltz2 : ¬ (j : Int) < (R.length : Int) := by omega
          obtain rfl : j = R.length := by omega
          have HTL := Aside0.mk (show R.take R.length = R from List.take_length)
          rw [HTL.out] at HO HC
          have h := H.out
          clear H
          obtain ⟨A12, c12, e12⟩ := Kd.R_slice HO.out
          subst e12
          obtain ⟨A13, c13, e13⟩ := Kd.R_slice HC.out
          subst e13
          by_cases hc : 0 < (mrg L R).2.length
          · rw [if_pos hc] at h
            simp only [Option.some.injEq, Prod.mk.injEq] at h
            obtain ⟨rfl, rfl, rfl⟩ := h
            have hcz : decide (((mrg L R).2.length : Int) > 0) = true := decide_eq_true (by omega)
            go_wp2
            go_ret3
            exact ⟨_, _, rfl, Kd.R_nil _ _ _ _ _, Kd.R_mono HC.out (fun _ _ => trivial), HB.out⟩
          · rw [if_neg hc] at h
            have hcz : decide (((mrg L R).2.length : Int) > 0) = false := decide_eq_false (by omega)
            obtain ⟨m, h3, h⟩ := Option.bind_eq_some_iff.mp h
            have A3 := Aside0.mk h3
            clear h3
            obtain ⟨⟨t1, t2⟩, h4, h⟩ := Option.bind_eq_some_iff.mp h
            have A4 := Aside0.mk h4
            clear h4
            simp only [Option.some.injEq, Prod.mk.injEq] at h
            obtain ⟨rfl, rfl, rfl⟩ := h
            go_wp2_with (first | (go_at_call 42; (with_reducible refine (impl_edited.calls k _ _ l1 _ _ (mrg L R).1 m _ ?s1 ?s2 ?s3 ?s4 A3.out).mono ?_); (case s1 => exact Kd.C_below HR1.out HB.out); (case s2 => exact HC1.out); (case s3 => exact (Kd.R_reads' HO.out).2.2); (case s4 => exact (Kd.R_reads' HO.out).2.1); rintro e w5 ⟨v5, rfl, ho, hb⟩; have n0_ := Aside0.mk (Kd.R_lower ho (below_size (w := w) HB.out)); have n1_ := Aside0.mk (below_step (w := w) HB.out hb); clear HB ho hb; have HX := n0_; have HB := n1_; clear n0_ n1_) | (go_at_call 41; (with_reducible refine (impl_limited.calls (fun _ => True) _ m t1 t2 w _ HB.out HX.out A4.out).mono ?_); rintro e w6 ⟨v6, rfl, ho, hb, hk⟩; have HY := Aside0.mk ho; have HB6 := Aside0.mk hb; clear ho hb hk))
            go_ret3
            exact ⟨_, _, rfl, Kd.R_mono HY.out (fun _ _ => trivial), Kd.R_nil _ _ _ _ _, HB6.out⟩
end Go.Proofs.Ytkmjmgkpcomldaa.Q
end

section
namespace Go.Proofs.Ytkmjmgkpcomldaa.Q
open Go.RowKit Go.Proofs.YtkmjmgkpcomldaaW.PrintWords Go.Proofs.YtkmjmgkpcomldaaW.PrintLast Go.Proofs.YtkmjmgkpcomldaaW.PrintMore
attribute [local go_sem] max2_int min2_int max_two min_two max_three min_three max_four min_four   -- for this text's walks alone
set_option linter.unusedVariables false
set_option linter.unusedSimpArgs false
attribute [local go_sem] bin_leq bin_gtr bin_geq
def impl_Merge3.f (k : Nat) (l0 : List (S35)) (l1 : List (S35)) (l2 : List (S35)) : Option ((List (S35)) × List ByteArray × Int) := (impl_areMaps.f (([l0, l1, l2] : List (List (S35))))).bind fun t743 => (if t743 = 0 then ((impl_merge.f k l0 l1 l2).bind fun bt744 => (some (bt744.1, bt744.2.1, bt744.2.2))) else (some (([] : List (S35)), ([] : List ByteArray), t743)))
set_option maxHeartbeats 8000000 in
set_option maxRecDepth 100000 in
theorem impl_Merge3.calls (k : Nat) (P0_ : Nat → Prop) (A0 : Option Addr) (c0 : Nat) (l0 : List (S35)) (P1_ : Nat → Prop) (A1 : Option Addr) (c1 : Nat) (l1 : List (S35)) (P2_ : Nat → Prop) (A2 : Option Addr) (c2 : Nat) (l2 : List (S35)) (r1 : List (S35)) (r2 : List ByteArray) (r3 : Int) (w : World) (hs0 : Kd.V k35 35 w w.heap.size (fun k_ => P0_ k_) (.slice A0 l0.length c0) l0) (hs1 : Kd.V k35 35 w w.heap.size (fun k_ => P1_ k_) (.slice A1 l1.length c1) l1) (hs2 : Kd.V k35 35 w w.heap.size (fun k_ => P2_ k_) (.slice A2 l2.length c2) l2) (h : impl_Merge3.f k l0 l1 l2 = some (r1, r2, r3)) :
    Calls Try.prog 33 #[.slice A0 l0.length c0, .slice A1 l1.length c1, .slice A2 l2.length c2] w fun e w' => ∃ v0_ v1_ : Value, e = .returned (.tuple #[v0_, v1_, .int .i64 r3]) ∧ Kd.R k35 35 w' w.heap.size (fun k_ => (w.heap.size ≤ k_)) v0_ r1 ∧ Kd.R Kd.string 9 w' w.heap.size (fun k_ => (w.heap.size ≤ k_)) v1_ r2 ∧ Below w.heap.size w w' := by
  have HO0 := Aside0.mk (show Kd.V k35 35 w w.heap.size (fun k_ => ((P0_ k_ ∨ P1_ k_ ∨ P2_ k_) ∨ w.heap.size ≤ k_)) (.slice A0 l0.length c0) l0 from Kd.V_mono hs0 (fun k_ hk => .inl (.inl hk)))
  have HO1 := Aside0.mk (show Kd.V k35 35 w w.heap.size (fun k_ => ((P0_ k_ ∨ P1_ k_ ∨ P2_ k_) ∨ w.heap.size ≤ k_)) (.slice A1 l1.length c1) l1 from Kd.V_mono hs1 (fun k_ hk => .inl (.inr (.inl hk))))
  have HO2 := Aside0.mk (show Kd.V k35 35 w w.heap.size (fun k_ => ((P0_ k_ ∨ P1_ k_ ∨ P2_ k_) ∨ w.heap.size ≤ k_)) (.slice A2 l2.length c2) l2 from Kd.V_mono hs2 (fun k_ hk => .inl (.inr (.inr hk))))
  have HB := Aside0.mk (Below.refl w.heap.size w)
  have H : ((impl_areMaps.f (([l0, l1, l2] : List (List (S35))))).bind fun t743 => (if t743 = 0 then ((impl_merge.f k l0 l1 l2).bind fun bt744 => (some (bt744.1, bt744.2.1, bt744.2.2))) else (some (([] : List (S35)), ([] : List ByteArray), t743)))) = some (r1, r2, r3) := h
  clear h
  obtain ⟨y740, hy740⟩ : ∃ y_ : List (List (S35)), y_ = (([l0, l1, l2] : List (List (S35)))) := ⟨_, rfl⟩
  replace H : ((impl_areMaps.f y740).bind fun t743 => (if t743 = 0 then ((impl_merge.f k l0 l1 l2).bind fun bt744 => (some (bt744.1, bt744.2.1, bt744.2.2))) else (some (([] : List (S35)), ([] : List ByteArray), t743)))) = some (r1, r2, r3) := by first | (rw [hy740]; with_reducible exact H) | (have H2_ := (Option.bind_some _ _).symm.trans H; rw [hy740]; with_reducible exact H2_) | (have H2_ := (Option.bind_some _ _).symm.trans H; with_reducible exact H2_) | with_reducible exact H | (rw [hy740]; exact H) | exact H
  have Ny740 := Aside0.mk hy740
  clear hy740
  replace H := Option.bind_eq_some_iff.mp H
  obtain ⟨t743, A40, H⟩ := H
  replace H : (if t743 = 0 then ((impl_merge.f k l0 l1 l2).bind fun bt744 => (some (bt744.1, bt744.2.1, bt744.2.2))) else (some (([] : List (S35)), ([] : List ByteArray), t743))) = some (r1, r2, r3) := H
  have A4 := Aside0.mk A40
  clear A40
  by_cases c5 : t743 = 0
  · rw [if_pos c5] at H
    have c5b0 : (t743 == 0) = true := beq_iff_eq.mpr c5
    have c5b1 : (t743 != 0) = false := bne_eq_false_iff_eq.mpr c5
    clear c5
    replace H := Option.bind_eq_some_iff.mp H
    obtain ⟨⟨t744, t745, t746⟩, A60, H⟩ := H
    replace H : (some (t744, t745, t746)) = some (r1, r2, r3) := H
    have A6 := Aside0.mk A60
    clear A60
    simp only [Option.some.injEq, Prod.mk.injEq] at H
    obtain ⟨rfl, rfl, rfl⟩ := H
    go_enter Try.func33, Try.ntmps33
    go_wp2_with (first | ((with_reducible refine gate_dst (N := 13) rfl ?_); refine Kd.N_lit (Kd.slice 35 k35) _ 23 ?hg (N' := 13) ?hd (xs := ([l0, l1, l2] : List (List (S35)))) (inner := [.slice A0 l0.length c0, .slice A1 l1.length c1, .slice A2 l2.length c2]) (ok := (fun k_ => ((P0_ k_ ∨ P1_ k_ ∨ P2_ k_) ∨ w.heap.size ≤ k_))) (okp := (fun k_ => ((P0_ k_ ∨ P1_ k_ ∨ P2_ k_) ∨ w.heap.size ≤ k_))) ?hr ?hp (fun _ hk => hk) ((show ∀ k_, w.heap.size ≤ k_ → (fun k_ => ((P0_ k_ ∨ P1_ k_ ∨ P2_ k_) ∨ w.heap.size ≤ k_)) k_ from fun k_ hk => (.inr (Nat.le_trans (below_size (w := w) bW) hk))) _ (Nat.le_refl _)) (Below.refl _ _) (Nat.le_refl _) (by simp) ?_; (case hd => rfl); (case hg => rfl); (case hr => first | (go_simp; done) | (go_simp; rfl)); (case hp => exact (Reps.one (show Kd.FK (Kd.slice 35 k35) _ _ l0 [.slice A0 l0.length c0] from (Kd.FK_slice_mk (Kd.V_reads' (Kd.V_mono (ok' := (fun k_ => ((P0_ k_ ∨ P1_ k_ ∨ P2_ k_) ∨ w.heap.size ≤ k_))) (HO0.out) (fun k_ hk => hk))).2.1 (Kd.V_F (Kd.V_mono (ok' := (fun k_ => ((P0_ k_ ∨ P1_ k_ ∨ P2_ k_) ∨ w.heap.size ≤ k_))) (HO0.out) (fun k_ hk => hk))))) (Reps.one (show Kd.FK (Kd.slice 35 k35) _ _ l1 [.slice A1 l1.length c1] from (Kd.FK_slice_mk (Kd.V_reads' (Kd.V_mono (ok' := (fun k_ => ((P0_ k_ ∨ P1_ k_ ∨ P2_ k_) ∨ w.heap.size ≤ k_))) (HO1.out) (fun k_ hk => hk))).2.1 (Kd.V_F (Kd.V_mono (ok' := (fun k_ => ((P0_ k_ ∨ P1_ k_ ∨ P2_ k_) ∨ w.heap.size ≤ k_))) (HO1.out) (fun k_ hk => hk))))) (Reps.one (show Kd.FK (Kd.slice 35 k35) _ _ l2 [.slice A2 l2.length c2] from (Kd.FK_slice_mk (Kd.V_reads' (Kd.V_mono (ok' := (fun k_ => ((P0_ k_ ∨ P1_ k_ ∨ P2_ k_) ∨ w.heap.size ≤ k_))) (HO2.out) (fun k_ hk => hk))).2.1 (Kd.V_F (Kd.V_mono (ok' := (fun k_ => ((P0_ k_ ∨ P1_ k_ ∨ P2_ k_) ∨ w.heap.size ≤ k_))) (HO2.out) (fun k_ hk => hk))))) (Reps.none _ _))))); intro v741 w7 ho8 hb hg_ hnew_; clear hg_ hnew_; (first | rw [← Ny740.out] at ho8 | (simp only [Int.reduceToNat] at ho8; rw [← Ny740.out] at ho8)); have n0_ := Aside0.mk (Kd.V_elder' (by (with_reducible repeat (first | apply Kd.V_alloc | apply Kd.V_drewN | apply Kd.V_drew)); exact HO0.out) (Kd.N_base ho8) hb); have n1_ := Aside0.mk (Kd.V_elder' (by (with_reducible repeat (first | apply Kd.V_alloc | apply Kd.V_drewN | apply Kd.V_drew)); exact HO1.out) (Kd.N_base ho8) hb); have n2_ := Aside0.mk (Kd.V_elder' (by (with_reducible repeat (first | apply Kd.V_alloc | apply Kd.V_drewN | apply Kd.V_drew)); exact HO2.out) (Kd.N_base ho8) hb); have n3_ := Aside0.mk (Kd.N_lower ho8 (below_size (w := w) bW)); have n4_ := Aside0.mk (below_step (w := w) bW hb); clear HO0; clear HO1; clear HO2; clear HB; have HO0 := n0_; have HO1 := n1_; have HO2 := n2_; have HO742 := n3_; have HB := n4_; clear n0_ n1_ n2_ n3_ n4_; clear hb ho8; obtain ⟨Ao9, co9, eo9⟩ := Kd.N_slice HO742.out; subst eo9) | ((with_reducible refine gate_callee (f := 74) rfl ?_); refine goesL_ (some 14) rfl rfl Try.func74 (by kernel_rfl) rfl #[.slice Ao9 y740.length co9] rfl gA ?_; (with_reducible refine (impl_areMaps.calls _ _ y740 t743 _ ?side1 ?side2 A4.out).mono ?_); (case side1 => repeat (first | exact (Kd.N_reads' HO742.out).2.2 | (with_reducible refine Kd.C_alloc ?_ _) | (with_reducible refine Kd.C_drewN ?_ _) | (with_reducible refine Kd.C_drew ?_))); (case side2 => exact (Kd.N_reads' HO742.out).2.1); rintro e w10 ⟨rfl, hb⟩; refine ⟨_, rfl, ?_⟩; have n0_ := Aside0.mk (Kd.V_below (by (with_reducible repeat (first | apply Kd.V_alloc | apply Kd.V_drewN | apply Kd.V_drew)); exact HO0.out) hb); have n1_ := Aside0.mk (Kd.V_below (by (with_reducible repeat (first | apply Kd.V_alloc | apply Kd.V_drewN | apply Kd.V_drew)); exact HO1.out) hb); have n2_ := Aside0.mk (Kd.V_below (by (with_reducible repeat (first | apply Kd.V_alloc | apply Kd.V_drewN | apply Kd.V_drew)); exact HO2.out) hb); have n3_ := Aside0.mk (Kd.N_below (by (with_reducible repeat (first | apply Kd.N_alloc | apply Kd.N_drewN | apply Kd.N_drew)); exact HO742.out) hb); have n4_ := Aside0.mk (below_step (w := w) bW hb); clear HO0; clear HO1; clear HO2; clear HO742; clear HB; have HO0 := n0_; have HO1 := n1_; have HO2 := n2_; have HO742 := n3_; have HB := n4_; clear n0_ n1_ n2_ n3_ n4_; (try clear hb); (try clear hb2); (try clear hk); (try clear hi)) | ((with_reducible refine gate_callee (f := 75) rfl ?_); refine goesL_ (some 21) rfl rfl Try.func75 (by kernel_rfl) rfl #[.slice A0 l0.length c0, .slice A1 l1.length c1, .slice A2 l2.length c2] rfl gA ?_; (with_reducible refine (impl_merge.calls k _ _ l0 _ _ l1 _ _ l2 t744 t745 t746 _ ?side1 ?side2 ?side3 ?side4 ?side5 ?side6 A6.out).mono ?_); (case side1 => repeat (first | exact (Kd.V_reads' HO0.out).2.2 | (with_reducible refine Kd.C_alloc ?_ _) | (with_reducible refine Kd.C_drewN ?_ _) | (with_reducible refine Kd.C_drew ?_))); (case side2 => exact (Kd.V_reads' HO0.out).2.1); (case side3 => repeat (first | exact (Kd.V_reads' HO1.out).2.2 | (with_reducible refine Kd.C_alloc ?_ _) | (with_reducible refine Kd.C_drewN ?_ _) | (with_reducible refine Kd.C_drew ?_))); (case side4 => exact (Kd.V_reads' HO1.out).2.1); (case side5 => repeat (first | exact (Kd.V_reads' HO2.out).2.2 | (with_reducible refine Kd.C_alloc ?_ _) | (with_reducible refine Kd.C_drewN ?_ _) | (with_reducible refine Kd.C_drew ?_))); (case side6 => exact (Kd.V_reads' HO2.out).2.1); rintro e w11 ⟨v747, v749, rfl, ho0, ho1, hb⟩; refine ⟨_, rfl, ?_⟩; have n0_ := Aside0.mk (Kd.V_mono (Kd.V_told (Kd.V_told (Kd.V_old (by (with_reducible repeat (first | apply Kd.V_alloc | apply Kd.V_drewN | apply Kd.V_drew)); exact HO0.out) hb) (Kd.R_base ho0)) (Kd.R_base ho1)) (fun _ h_ => h_.1)); have n1_ := Aside0.mk (Kd.V_mono (Kd.V_told (Kd.V_told (Kd.V_old (by (with_reducible repeat (first | apply Kd.V_alloc | apply Kd.V_drewN | apply Kd.V_drew)); exact HO1.out) hb) (Kd.R_base ho0)) (Kd.R_base ho1)) (fun _ h_ => h_.1)); have n2_ := Aside0.mk (Kd.V_mono (Kd.V_told (Kd.V_told (Kd.V_old (by (with_reducible repeat (first | apply Kd.V_alloc | apply Kd.V_drewN | apply Kd.V_drew)); exact HO2.out) hb) (Kd.R_base ho0)) (Kd.R_base ho1)) (fun _ h_ => h_.1)); have n3_ := Aside0.mk (Kd.N_mono (Kd.N_told (Kd.N_told (Kd.N_old (by (with_reducible repeat (first | apply Kd.N_alloc | apply Kd.N_drewN | apply Kd.N_drew)); exact HO742.out) hb) (Kd.R_base ho0)) (Kd.R_base ho1)) (fun _ h_ => h_.1)); have n4_ := Aside0.mk (Kd.R_lower (Kd.R_newM (M := fun k_ => (w.heap.size ≤ k_)) ho0 (below_size (w := w) bW) (fun k_ h_ => h_)) (below_size (w := w) bW)); have n5_ := Aside0.mk (Kd.R_lower (Kd.R_newM (M := fun k_ => (w.heap.size ≤ k_)) ho1 (below_size (w := w) bW) (fun k_ h_ => h_)) (below_size (w := w) bW)); have n6_ := Aside0.mk (below_step (w := w) bW hb); clear HO0; clear HO1; clear HO2; clear HO742; clear HB; have HO0 := n0_; have HO1 := n1_; have HO2 := n2_; have HO742 := n3_; have HO748 := n4_; have HO750 := n5_; have HB := n6_; clear n0_ n1_ n2_ n3_ n4_ n5_ n6_; (try clear hb); (try clear hb2); (try clear hk); (try clear hi); (try clear ho0); (try clear ho1)))
    go_ret3
    exact ⟨_, _, by first | rfl | (simp [errW_none, errW_some] <;> rfl) | (simp [*, errW_none, errW_some] <;> rfl), by (with_reducible repeat (first | apply Kd.R_alloc | apply Kd.R_drewN | apply Kd.R_drew)); exact Kd.R_mono HO748.out (fun _ hk => hk.1), by (with_reducible repeat (first | apply Kd.R_alloc | apply Kd.R_drewN | apply Kd.R_drew)); exact Kd.R_mono HO750.out (fun _ hk => hk.1), bW⟩
  · rw [if_neg c5] at H
    have c5b0 : (t743 == 0) = false := beq_eq_false_iff_ne.mpr c5
    have c5b1 : (t743 != 0) = true := bne_iff_ne.mpr c5
    simp only [Option.some.injEq, Prod.mk.injEq] at H
    obtain ⟨rfl, rfl, rfl⟩ := H
    go_enter Try.func33, Try.ntmps33
    go_wp2_with (first | ((with_reducible refine gate_dst (N := 13) rfl ?_); refine Kd.N_lit (Kd.slice 35 k35) _ 23 ?hg (N' := 13) ?hd (xs := ([l0, l1, l2] : List (List (S35)))) (inner := [.slice A0 l0.length c0, .slice A1 l1.length c1, .slice A2 l2.length c2]) (ok := (fun k_ => ((P0_ k_ ∨ P1_ k_ ∨ P2_ k_) ∨ w.heap.size ≤ k_))) (okp := (fun k_ => ((P0_ k_ ∨ P1_ k_ ∨ P2_ k_) ∨ w.heap.size ≤ k_))) ?hr ?hp (fun _ hk => hk) ((show ∀ k_, w.heap.size ≤ k_ → (fun k_ => ((P0_ k_ ∨ P1_ k_ ∨ P2_ k_) ∨ w.heap.size ≤ k_)) k_ from fun k_ hk => (.inr (Nat.le_trans (below_size (w := w) bW) hk))) _ (Nat.le_refl _)) (Below.refl _ _) (Nat.le_refl _) (by simp) ?_; (case hd => rfl); (case hg => rfl); (case hr => first | (go_simp; done) | (go_simp; rfl)); (case hp => exact (Reps.one (show Kd.FK (Kd.slice 35 k35) _ _ l0 [.slice A0 l0.length c0] from (Kd.FK_slice_mk (Kd.V_reads' (Kd.V_mono (ok' := (fun k_ => ((P0_ k_ ∨ P1_ k_ ∨ P2_ k_) ∨ w.heap.size ≤ k_))) (HO0.out) (fun k_ hk => hk))).2.1 (Kd.V_F (Kd.V_mono (ok' := (fun k_ => ((P0_ k_ ∨ P1_ k_ ∨ P2_ k_) ∨ w.heap.size ≤ k_))) (HO0.out) (fun k_ hk => hk))))) (Reps.one (show Kd.FK (Kd.slice 35 k35) _ _ l1 [.slice A1 l1.length c1] from (Kd.FK_slice_mk (Kd.V_reads' (Kd.V_mono (ok' := (fun k_ => ((P0_ k_ ∨ P1_ k_ ∨ P2_ k_) ∨ w.heap.size ≤ k_))) (HO1.out) (fun k_ hk => hk))).2.1 (Kd.V_F (Kd.V_mono (ok' := (fun k_ => ((P0_ k_ ∨ P1_ k_ ∨ P2_ k_) ∨ w.heap.size ≤ k_))) (HO1.out) (fun k_ hk => hk))))) (Reps.one (show Kd.FK (Kd.slice 35 k35) _ _ l2 [.slice A2 l2.length c2] from (Kd.FK_slice_mk (Kd.V_reads' (Kd.V_mono (ok' := (fun k_ => ((P0_ k_ ∨ P1_ k_ ∨ P2_ k_) ∨ w.heap.size ≤ k_))) (HO2.out) (fun k_ hk => hk))).2.1 (Kd.V_F (Kd.V_mono (ok' := (fun k_ => ((P0_ k_ ∨ P1_ k_ ∨ P2_ k_) ∨ w.heap.size ≤ k_))) (HO2.out) (fun k_ hk => hk))))) (Reps.none _ _))))); intro v741 w12 ho13 hb hg_ hnew_; clear hg_ hnew_; (first | rw [← Ny740.out] at ho13 | (simp only [Int.reduceToNat] at ho13; rw [← Ny740.out] at ho13)); have n0_ := Aside0.mk (Kd.V_elder' (by (with_reducible repeat (first | apply Kd.V_alloc | apply Kd.V_drewN | apply Kd.V_drew)); exact HO0.out) (Kd.N_base ho13) hb); have n1_ := Aside0.mk (Kd.V_elder' (by (with_reducible repeat (first | apply Kd.V_alloc | apply Kd.V_drewN | apply Kd.V_drew)); exact HO1.out) (Kd.N_base ho13) hb); have n2_ := Aside0.mk (Kd.V_elder' (by (with_reducible repeat (first | apply Kd.V_alloc | apply Kd.V_drewN | apply Kd.V_drew)); exact HO2.out) (Kd.N_base ho13) hb); have n3_ := Aside0.mk (Kd.N_lower ho13 (below_size (w := w) bW)); have n4_ := Aside0.mk (below_step (w := w) bW hb); clear HO0; clear HO1; clear HO2; clear HB; have HO0 := n0_; have HO1 := n1_; have HO2 := n2_; have HO742 := n3_; have HB := n4_; clear n0_ n1_ n2_ n3_ n4_; clear hb ho13; obtain ⟨Ao14, co14, eo14⟩ := Kd.N_slice HO742.out; subst eo14) | ((with_reducible refine gate_callee (f := 74) rfl ?_); refine goesL_ (some 14) rfl rfl Try.func74 (by kernel_rfl) rfl #[.slice Ao14 y740.length co14] rfl gA ?_; (with_reducible refine (impl_areMaps.calls _ _ y740 t743 _ ?side1 ?side2 A4.out).mono ?_); (case side1 => repeat (first | exact (Kd.N_reads' HO742.out).2.2 | (with_reducible refine Kd.C_alloc ?_ _) | (with_reducible refine Kd.C_drewN ?_ _) | (with_reducible refine Kd.C_drew ?_))); (case side2 => exact (Kd.N_reads' HO742.out).2.1); rintro e w15 ⟨rfl, hb⟩; refine ⟨_, rfl, ?_⟩; have n0_ := Aside0.mk (Kd.V_below (by (with_reducible repeat (first | apply Kd.V_alloc | apply Kd.V_drewN | apply Kd.V_drew)); exact HO0.out) hb); have n1_ := Aside0.mk (Kd.V_below (by (with_reducible repeat (first | apply Kd.V_alloc | apply Kd.V_drewN | apply Kd.V_drew)); exact HO1.out) hb); have n2_ := Aside0.mk (Kd.V_below (by (with_reducible repeat (first | apply Kd.V_alloc | apply Kd.V_drewN | apply Kd.V_drew)); exact HO2.out) hb); have n3_ := Aside0.mk (Kd.N_below (by (with_reducible repeat (first | apply Kd.N_alloc | apply Kd.N_drewN | apply Kd.N_drew)); exact HO742.out) hb); have n4_ := Aside0.mk (below_step (w := w) bW hb); clear HO0; clear HO1; clear HO2; clear HO742; clear HB; have HO0 := n0_; have HO1 := n1_; have HO2 := n2_; have HO742 := n3_; have HB := n4_; clear n0_ n1_ n2_ n3_ n4_; (try clear hb); (try clear hb2); (try clear hk); (try clear hi)))
    go_ret3
    exact ⟨_, _, by first | rfl | (simp [errW_none, errW_some] <;> rfl) | (simp [*, errW_none, errW_some] <;> rfl), by first | exact Kd.R_nil _ _ _ _ _ | exact Kd.N_nil _ _ _ _ _ | exact Kd.V_nil _ _ _ _ _ | exact Kd.Q_nil _ _ _ _ _ | exact Kd.S_nil _ _ _ _ _, by first | exact Kd.R_nil _ _ _ _ _ | exact Kd.N_nil _ _ _ _ _ | exact Kd.V_nil _ _ _ _ _ | exact Kd.Q_nil _ _ _ _ _ | exact Kd.S_nil _ _ _ _ _, bW⟩
end Go.Proofs.Ytkmjmgkpcomldaa.Q
end

section
namespace Go.Proofs.Ytkmjmgkpcomldaa.Q
open Go.RowKit Go.Proofs.YtkmjmgkpcomldaaW.PrintWords Go.Proofs.YtkmjmgkpcomldaaW.PrintLast Go.Proofs.YtkmjmgkpcomldaaW.PrintMore
attribute [local go_sem] max2_int min2_int max_two min_two max_three min_three max_four min_four   -- for this text's walks alone
set_option linter.unusedVariables false
set_option linter.unusedSimpArgs false
attribute [local go_sem] bin_leq bin_gtr bin_geq
def spec_l01OK.f (l0 : List (S35)) : Option (Bool) := some (mapB l0)
set_option maxHeartbeats 4000000 in
set_option maxRecDepth 100000 in
theorem spec_l01OK.calls (A0 : Option Addr) (c0 : Nat) (l0 : List (S35)) (r : Bool) (w : World) (hr0 : Kd.C k35 w A0 l0.length l0) (hc0 : l0.length ≤ c0) (h : spec_l01OK.f l0 = some r) :
    Calls Try.prog 55 #[.slice A0 l0.length c0] w fun e w' => e = .returned (.bool r) ∧ Drawn0 w w' := by
  obtain rfl := Option.some.inj h
  clear h
  have HM : l0.length ≤ 9223372036854775807 := hr0.2.1
  have HR0 := Aside0.mk hr0
  clear hr0 hc0
  by_cases hlen : l0.length ≤ 12
  · have RT := Aside0.mk (show allR (entAt l0) l0.length = mapB l0 by simp [mapB, hlen])
    go_enter Try.func55, Try.ntmps55
    go_wp2
    go_loopg [3] l0.length (fun gk v3 w' => ∃ x : Int, v3 = .int .i64 x ∧ 0 ≤ x ∧ x ≤ l0.length ∧ l0.length - x.toNat ≤ gk ∧ Aside0 (∀ j, j < x.toNat → entAt l0 j = true) ∧ Aside0 (Drawn0 w w'))
    case atStart => exact ⟨0, rfl, by omega, by omega, by omega, ⟨fun j hj => absurd hj (by simp)⟩, ⟨Drawn0.refl _⟩⟩
    case round =>
      obtain ⟨x, rfl, h0, h1, hg, HA, HD⟩ := hrel
      by_cases hlt : x < (l0.length : Int)
      · have HRW := Aside0.mk (C_drawn HR0.out HD.out)
        obtain ⟨ad, e1, hx0, hx1⟩ := at_T35 HRW.out x h0 hlt
        cases e1
        have ex : ((x.toNat : Nat) : Int) = x := by omega
        have E0 := Aside0.mk (show entAt l0 x.toNat = (entB (rd_T35 l0 x) && (x.toNat == 0 || sblt (rd_T35 l0 (x - 1)).f0 (rd_T35 l0 x).f0)) by unfold entAt; rw [ex])
        clear ex
        cases hN : nameB (rd_T35 l0 x).f0 with
        | false =>
          have HN := Aside0.mk hN
          have E1 := Aside0.mk (show mapB l0 = false by rw [← RT.out]; exact allR_false (j := x.toNat) (by omega) (by rw [E0.out, entB, HN.out]; rfl))
          clear hN
          go_wp2
          go_quiet ((go_at_call 65; exact quiet_ (l00Word_call _ _ _ HN.out)))
          go_wp2
          go_ret
          exact ⟨by rw [E1.out]; rfl, drawn_then HD.out (drawn_q _)⟩
        | true =>
          have HN := Aside0.mk hN
          clear hN
          cases hV : inB (rd_T35 l0 x).f1 (-1000000) 1000000 with
          | false =>
            have HV := Aside0.mk hV
            have E1 := Aside0.mk (show mapB l0 = false by rw [← RT.out]; exact allR_false (j := x.toNat) (by omega) (by rw [E0.out, entB, HN.out, HV.out]; rfl))
            clear hV
            go_wp2
            go_quiet ((first | (go_at_call 65; exact quiet_ (l00Word_call _ _ _ HN.out)) | (go_at_call 44; exact quiet_ (l01In_call _ _ _ _ _ HV.out))))
            go_wp2
            go_ret
            exact ⟨by rw [E1.out]; rfl, drawn_then HD.out (drawn_q _)⟩
          | true =>
            have HV := Aside0.mk hV
            clear hV
            by_cases hpos : 0 < x
            · obtain ⟨ad', e2, hz0, hz1⟩ := at_T35 HRW.out (x - 1) (by omega) (by omega)
              cases e2
              rw [show (x - 1).toNat = x.toNat - 1 by omega] at hz0
              clear hz1
              cases hS : sblt (rd_T35 l0 (x - 1)).f0 (rd_T35 l0 x).f0 with
              | false =>
                have HS := Aside0.mk hS
                have E1 := Aside0.mk (show mapB l0 = false by
                  rw [← RT.out]
                  have h2 : (x.toNat == 0) = false := by simp; omega
                  exact allR_false (j := x.toNat) (by omega) (by rw [E0.out, entB, HN.out, HV.out, HS.out, h2]; rfl))
                have hS1 : Op.bytesLess (rd_T35 l0 (x - 1)).f0.toList (rd_T35 l0 x).f0.toList = false := hS
                clear hS
                have p1 : 0 ≤ x - 1 := by omega
                have p2 : x - 1 < (l0.length : Int) := by omega
                have p3 : 1 ≤ x := by omega
                have hwr : IntKind.i64.wrap (x - 1) = x - 1 := IntWalk.i64_in _ (by omega)
                go_wp2
                go_quiet ((first | (go_at_call 65; exact quiet_ (l00Word_call _ _ _ HN.out)) | (go_at_call 44; exact quiet_ (l01In_call _ _ _ _ _ HV.out))))
                clear hwr
                go_wp2
                go_ret
                exact ⟨by rw [E1.out]; rfl, drawn_then HD.out (drawn_q _)⟩
              | true =>
                have HS := Aside0.mk hS
                have E1 := Aside0.mk (show entAt l0 x.toNat = true by rw [E0.out, entB, HN.out, HV.out, HS.out]; simp)
                have hS1 : Op.bytesLess (rd_T35 l0 (x - 1)).f0.toList (rd_T35 l0 x).f0.toList = true := hS
                clear hS
                have p1 : 0 ≤ x - 1 := by omega
                have p2 : x - 1 < (l0.length : Int) := by omega
                have p3 : 1 ≤ x := by omega
                have hwr : IntKind.i64.wrap (x - 1) = x - 1 := IntWalk.i64_in _ (by omega)
                go_wp2
                go_quiet ((first | (go_at_call 65; exact quiet_ (l00Word_call _ _ _ HN.out)) | (go_at_call 44; exact quiet_ (l01In_call _ _ _ _ _ HV.out))))
                clear hwr
                go_wp2
                go_roundg (l0.length - (x.toNat + 1))
                case measure => omega
                case rel => exact ⟨x + 1, by go_num, by omega, by omega, by omega, ⟨fun j hj => by
                  by_cases e : j = x.toNat
                  · rw [e]; exact E1.out
                  · exact HA.out j (by omega)⟩, ⟨drawn_then HD.out (drawn_q _)⟩⟩
            · have h2 : (x.toNat == 0) = true := by simp; omega
              have E1 := Aside0.mk (show entAt l0 x.toNat = true by rw [E0.out, entB, HN.out, HV.out, h2]; rfl)
              clear h2
              have p0 : decide (0 < x) = false := decide_eq_false hpos
              go_wp2
              go_quiet ((first | (go_at_call 65; exact quiet_ (l00Word_call _ _ _ HN.out)) | (go_at_call 44; exact quiet_ (l01In_call _ _ _ _ _ HV.out))))
              go_wp2
              go_roundg (l0.length - (x.toNat + 1))
              case measure => omega
              case rel => exact ⟨x + 1, by go_num, by omega, by omega, by omega, ⟨fun j hj => by
                obtain rfl : j = x.toNat := by omega
                exact E1.out⟩, ⟨drawn_then HD.out (drawn_q _)⟩⟩
      · have E1 := Aside0.mk (show mapB l0 = true by rw [← RT.out]; exact allR_true (fun j hj => HA.out j (by omega)))
        obtain rfl : x = (l0.length : Int) := by omega
        go_wp2
        go_ret
        exact ⟨by rw [E1.out]; rfl, HD.out⟩
  · have RT := Aside0.mk (show false = mapB l0 by simp [mapB, hlen])
    go_enter Try.func55, Try.ntmps55
    go_wp2
    go_ret
    exact ⟨by rw [← RT.out]; rfl, Drawn0.refl _⟩
end Go.Proofs.Ytkmjmgkpcomldaa.Q
end

section
namespace Go.Proofs.Ytkmjmgkpcomldaa.Q
open Go.RowKit Go.Proofs.YtkmjmgkpcomldaaW.PrintWords Go.Proofs.YtkmjmgkpcomldaaW.PrintLast Go.Proofs.YtkmjmgkpcomldaaW.PrintMore
attribute [local go_sem] max2_int min2_int max_two min_two max_three min_three max_four min_four   -- for this text's walks alone
set_option linter.unusedVariables false
set_option linter.unusedSimpArgs false
attribute [local go_sem] bin_leq bin_gtr bin_geq
theorem eqA66 (d : Nat) (w : World) (x0 y0 : ByteArray) (x1 y1 : Int) (x2 y2 : Bool) :
    (Op.equalIn (d + 2) 66 (.agg #[.string x0, .int .i64 x1, .bool x2]) (.agg #[.string y0, .int .i64 y1, .bool y2])).run Try.prog w = .ok (x0.toList == y0.toList && (x1 == y1 && (x2 == y2))) w := by
  refine eqA_of Try.underlying66 (by kernel_rfl) ?_
  refine eqf_cons (by rfl) (by go_simp; rfl) (by go_simp; rfl) (by go_simp) ?_
  refine eqf_cons (by rfl) (by go_simp; rfl) (by go_simp; rfl) (by go_simp) ?_
  exact eqf_last (by rfl) (by go_simp; rfl) (by go_simp; rfl) (by go_simp)
end Go.Proofs.Ytkmjmgkpcomldaa.Q
end
