/-
  Each path is cleaned by the program as by the reference, and its names are the same. No condition beyond the sizes of memory.
-/
import Derived.Test.YtbkhkdadipigfaaDoorPathEq
namespace Go.Proofs.YtbkhkdadipigfaaDoor.Pure
open Go.RowKit Go.Proofs.YtbkhkdadipigfaaDoor.P Go.Proofs.YtbkhkdadipigfaaDoorW.PrintWords Go.Proofs.YtbkhkdadipigfaaDoorW.PrintLast
open Go.Proofs.YtbkhkdadipigfaaDoor.PathL Go.Proofs.YtbkhkdadipigfaaDoor.PathEq

theorem PathCleans : messuagelaw04_PathCleans.Pure := by
  intro p _
  refine ⟨5000, ?_⟩
  unfold messuagelaw04_PathCleans.f
  by_cases h : (p.size : Int) > 4096
  · rw [if_pos h]
  · rw [if_neg h, clean_eq p 5000 (by omega) (by omega), rclean_eq p 5000 (by omega) (by omega), parts_eq p 5000 (by omega) (by omega), rparts_eq p 5000 (by omega) (by omega), isClean_eq p 5000 (by omega) (by omega), alive_eq 5000 (by omega)]
    have hp : ((parts p.data.toList).map mkB).length ≤ 4097 := by
      have := parts_len p.data.toList
      rw [data_len] at this
      rw [List.length_map]
      omega
    simp only [Option.bind_some]
    rw [same_refl _ 5000 (by omega) (by omega)]
    simp only [Option.bind_some, tl]
    by_cases h0 : (cleanR p.data.toList).2 = 0
    · simp [h0]
    · simp [h0]

end Go.Proofs.YtbkhkdadipigfaaDoor.Pure
