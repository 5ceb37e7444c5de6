/-
  Which files are right in which folders, and below them, archives' entries too: the program answers as the reference. No condition beyond the sizes of memory.
-/
import Derived.Test.YtbkhkdadipigfaaDoorPolEq
namespace Go.Proofs.YtbkhkdadipigfaaDoor.Pure
open Go.RowKit Go.Proofs.YtbkhkdadipigfaaDoor.P Go.Proofs.YtbkhkdadipigfaaDoorW.PrintWords Go.Proofs.YtbkhkdadipigfaaDoorW.PrintLast
open Go.Proofs.YtbkhkdadipigfaaDoor.PathL Go.Proofs.YtbkhkdadipigfaaDoor.PolEq

theorem PolicyPlaces : messuagelaw20_PolicyPlaces.Pure := by
  intro r d _ _
  refine ⟨20000, ?_⟩
  unfold messuagelaw20_PolicyPlaces.f
  have out : messuagelaw20_PolicyPlaces.j0 20000 r d true = some true := by simp only [messuagelaw20_PolicyPlaces.j0, if_true]
  by_cases h : (r.size : Int) > 4096
  · rw [if_pos h, out]
  · rw [if_neg h]
    by_cases h2 : (d.size : Int) > 4096
    · rw [decide_eq_true h2, out]
    · rw [decide_eq_false h2]
      simp only [messuagelaw20_PolicyPlaces.j0]
      rw [child_eq' r d 19999 (by omega) (by omega) (by omega), rchild_eq' r d 19999 (by omega) (by omega) (by omega), under_eq' r d (by omega) (by omega), runder_eq' r d 19999 (by omega) (by omega) (by omega), alive_eq' 19999 (by omega)]
      simp

end Go.Proofs.YtbkhkdadipigfaaDoor.Pure
