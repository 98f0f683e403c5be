/- What the laws' helpers compute on Event values (no memory, no Go). -/
import Derived.Test.YtmkgkinhbahlmaaQf27
import Derived.Test.YtmkgkinhbahlmaaQf29
import Derived.Test.YtmkgkinhbahlmaaQf25
import Derived.Test.YtmkgkinhbahlmaaQaloops
import Derived.Test.YtmkgkinhbahlmaaQaopen142
namespace Go.Proofs.Ytmkgkinhbahlmaa.Q
open Go.RowKit Go.Proofs.YtmkgkinhbahlmaaW.PrintWords Go.Proofs.YtmkgkinhbahlmaaW.PrintLast
set_option linter.unusedVariables false
def cvEvent (x : S142) : S140 := ⟨x.f0, x.f1, x.f2⟩
theorem toEventS_ev (l : List S142) (h : l.length ≤ 1048576) : Ev (fun k => laws_toEventS.f k l) (l.map cvEvent) := by
  refine Ev.congr (f := fun k => laws_toEventS.l0 k l (List.replicate l.length z140) 0) (fun k => ?_) ?_
  · unfold laws_toEventS.f
    rw [if_pos (by omega), if_pos (by omega)]
    rfl
  · exact ev_map_loop (L := laws_toEventS.l0) (g := fun _ x => some (cvEvent x)) (z := z142) (fun _ _ _ _ => rfl) l (by omega) (fun x _ => Ev.now _) _ (by simp)
theorem eqEvent_refl (x : S140) : laws_eqEvent.f x.f0 x.f1 x.f2 x.f0 x.f1 x.f2 = some true := by
  unfold laws_eqEvent.f
  simp
theorem eqEventS_ev (l : List S140) (h : l.length ≤ 1048576) : Ev (fun k => laws_eqEventS.f k l l) true := by
  refine Ev.congr (f := fun k => laws_eqEventS.l0 k l l 0) (fun k => ?_) ?_
  · unfold laws_eqEventS.f
    rw [if_pos rfl]
  · exact ev_refl_loop (L := laws_eqEventS.l0) (g := fun _ x y => laws_eqEvent.f x.f0 x.f1 x.f2 y.f0 y.f1 y.f2) (z := z140) (fun _ _ _ _ => rfl) l (by omega) (fun x _ => Ev.congr (fun _ => eqEvent_refl x) (Ev.now _))
theorem szEventS_ev (l : List S142) (hl : l.length ≤ 9223372036854775807) (hg : ∀ x, x ∈ l → good142 x) (left : Int) (h0 : 0 ≤ left) (h1 : left ≤ 1048576) :
    ∃ r, Ev (fun _ => laws_szEventS.f l left) r ∧ r ≤ left ∧ (0 ≤ r → l.length ≤ 1048576) := by
  have hw : wrap64 (left - (l.length : Int)) = left - (l.length : Int) := by unfold wrap64; omega
  by_cases hn : left - (l.length : Int) < 0
  · refine ⟨-1, Ev.congr (f := fun _ => some (-1)) (fun k => ?_) (Ev.now _), by omega, by omega⟩
    unfold laws_szEventS.f
    rw [hw, if_pos hn]
  · refine ⟨left - (l.length : Int), Ev.congr (f := fun _ => some (left - (l.length : Int))) (fun k => ?_) (Ev.now _), by omega, by omega⟩
    unfold laws_szEventS.f
    rw [hw, if_neg hn]
end Go.Proofs.Ytmkgkinhbahlmaa.Q
