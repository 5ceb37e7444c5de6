/-
  The last name, the folder above, what is below what, archives and lists: the program answers as the reference, of any texts. No condition beyond the sizes of memory.
-/
import Derived.Test.YtbkhkdadipigfaaDoorPathEq
import Derived.Test.YtbkhkdadipigfaaDoorPx8
namespace Go.Proofs.YtbkhkdadipigfaaDoor.Pure
open Go.RowKit Go.Proofs.YtbkhkdadipigfaaDoor.P Go.Proofs.YtbkhkdadipigfaaDoorW.PrintWords Go.Proofs.YtbkhkdadipigfaaDoorW.PrintLast
open Go.Proofs.YtbkhkdadipigfaaDoor.PathL Go.Proofs.YtbkhkdadipigfaaDoor.PathEq

theorem PathTells : messuagelaw04_PathTells.Pure := by
  intro p d _ _
  refine ⟨20000, ?_⟩
  unfold messuagelaw04_PathTells.f
  have out : messuagelaw04_PathTells.j0 20000 p d true = some true := by simp only [messuagelaw04_PathTells.j0, if_true]
  by_cases h : (p.size : Int) > 4096
  · rw [if_pos h, out]
  · rw [if_neg h]
    by_cases h2 : (d.size : Int) > 4096
    · rw [decide_eq_true h2, out]
    · have hp : ((listL p.data.toList).map mkB).length ≤ 4097 := by
        have h1 : (listL p.data.toList).length ≤ (split1 58 p.data.toList).length := List.length_filter_le _ _
        have h3 := split1_len 58 p.data.toList
        rw [data_len] at h3
        rw [List.length_map]
        omega
      rw [decide_eq_false h2]
      simp only [messuagelaw04_PathTells.j0]
      rw [arch_eq p (by omega), rarch_eq p 19999 (by omega) (by omega), base_eq p 19999 (by omega) (by omega), rbase_eq p 19999 (by omega) (by omega), up_eq p 19999 (by omega) (by omega), rup_eq p 19999 (by omega) (by omega), under_eq p d (by omega), runder_eq p d (by omega), child_eq p d 19999 (by omega) (by omega), rchild_eq p d 19999 (by omega) (by omega), list_eq p 19999 (by omega) (by omega), rlist_eq p 19999 (by omega) (by omega), alive_eq 19999 (by omega)]
      simp only [Option.bind_some]
      rw [same_refl _ 19999 (by omega) (by omega)]
      simp

end Go.Proofs.YtbkhkdadipigfaaDoor.Pure
