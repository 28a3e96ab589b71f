/- FieldWithin: the plain law. -/
import Derived.Test.YtnafocahllmpiaaDoorPureA
namespace Go.Proofs.YtnafocahllmpiaaDoor.Pure
open Go.RowKit Go.Proofs.YtnafocahllmpiaaDoor.P Go.Proofs.YtnafocahllmpiaaDoorW.PrintWords Go.Proofs.YtnafocahllmpiaaDoorW.PrintLast
theorem within_loop (len : Int) (l : List S31) (h0 : 0 < l.length) (h1 : l.length ≤ 16) (hs : SpansIn len l) :
    ∀ (n i : Nat), n + i = l.length → Ev (fun k => turnbucklelaw17_FieldWithin.l0 k len l l (l.length : Int) (i : Int)) true
  | 0, i, hn => by
    have hi : ¬ (i : Int) < (l.length : Int) := by omega
    exact Ev.step (fun k => by rw [turnbucklelaw17_FieldWithin.l0, if_neg hi, if_pos (by omega), if_pos (by omega)]) (Ev.bind alive_ev (Ev.now _))
  | n + 1, i, hn => by
    have hi : (i : Int) < (l.length : Int) := by omega
    have hw : wrap64 ((i : Int) + 1) = ((i + 1 : Nat) : Int) := by unfold wrap64; omega
    have hl : i < l.length := by omega
    have e : rd_T31 l (i : Int) = l[i] := by simp [rd_T31, List.getD_eq_getElem?_getD, List.getElem?_eq_getElem hl]
    obtain ⟨a, b, c⟩ := hs l[i] (List.getElem_mem hl)
    exact Ev.step (fun k => by rw [turnbucklelaw17_FieldWithin.l0, if_pos hi, if_pos (Int.natCast_nonneg i), if_pos hi, e, if_neg (by omega), if_neg (by omega), if_neg (by omega), hw]) (within_loop len l h0 h1 hs n (i + 1) (by omega))
theorem FieldWithin : turnbucklelaw17_FieldWithin.Pure := by
  intro s len _ _
  refine Ev.rounds (g := fun k => turnbucklelaw17_FieldWithin.f k s len) ?_
  unfold turnbucklelaw17_FieldWithin.f
  by_cases h : (s.size : Int) > 3000
  · exact Ev.ifT h (Ev.bind alive_ev (Ev.now _))
  · refine Ev.ifF h ?_
    obtain ⟨l, e, hv, hr⟩ := ranges_total s len (by omega)
    refine Ev.bind hv ?_
    rcases hr with ⟨rfl, h0, h1, hs⟩ | ⟨he, rfl⟩
    · exact Ev.ifT rfl (within_loop len l h0 h1 hs l.length 0 (by omega))
    · exact Ev.ifF he (Ev.ifT rfl (Ev.bind alive_ev (Ev.now _)))
end Go.Proofs.YtnafocahllmpiaaDoor.Pure
