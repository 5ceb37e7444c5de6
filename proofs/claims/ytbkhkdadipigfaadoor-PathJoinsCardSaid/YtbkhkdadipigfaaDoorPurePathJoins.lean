/-
  A name within a folder: the program answers as the reference. No condition beyond the sizes of memory.
-/
import Derived.Test.YtbkhkdadipigfaaDoorPathEq
namespace Go.Proofs.YtbkhkdadipigfaaDoor.Pure
open Go.RowKit Go.Proofs.YtbkhkdadipigfaaDoor.P Go.Proofs.YtbkhkdadipigfaaDoorW.PrintWords Go.Proofs.YtbkhkdadipigfaaDoorW.PrintLast
open Go.Proofs.YtbkhkdadipigfaaDoor.PathL Go.Proofs.YtbkhkdadipigfaaDoor.PathEq

theorem rjoin_eq (d n : ByteArray) (k : Nat) (hk : d.size + n.size + 8 < k) (hp : d.size + n.size + 1 ≤ 900000) : messuageref04_Join.f k d n = path_Join.f k d n := by
  have e : ((d ++ (⟨#[47]⟩ : ByteArray)) ++ n).data.toList = d.data.toList ++ 47 :: n.data.toList := by
    rw [ByteArray.data_append, Array.toList_append, slash_data]; simp
  have e1 : (d ++ (⟨#[47]⟩ : ByteArray)).size = d.size + 1 := by rw [← data_len, slash_data, List.length_append, data_len]; rfl
  have e2 : ((d ++ (⟨#[47]⟩ : ByteArray)) ++ n).size = d.size + n.size + 1 := by rw [← data_len, e, List.length_append, List.length_cons, data_len, data_len]; omega
  rw [join_eq d n k (by omega) hp]
  obtain ⟨k, rfl⟩ : ∃ m, k = m + 1 := ⟨k - 1, by omega⟩
  have key : ∀ b : Bool, (b = true ↔ [47].isPrefixOf n.data.toList = true) → messuageref04_Join.j0 (k + 1) d n b = some (if [47].isPrefixOf n.data.toList = true then cleanR n.data.toList else if isGood d.data.toList = true then if isGood n.data.toList = true then cleanR (d.data.toList ++ 47 :: n.data.toList) else (mkB [], 40) else (mkB [], 40)) := by
    intro b hb
    simp only [messuageref04_Join.j0]
    rw [rclean_eq n k (by omega) (by omega), rgood_eq d k (by omega) (by omega), rgood_eq n k (by omega) (by omega), rclean_eq _ k (by rw [e2]; omega) (by rw [e2]; omega), e, e1]
    simp only [Option.bind_some]
    have c1 : d.size + 1 ≤ 9223372036854775807 := by omega
    have c2 : d.size + 1 + n.size ≤ 9223372036854775807 := by omega
    rw [if_pos c1, if_pos c2]
    by_cases h : [47].isPrefixOf n.data.toList = true
    · rw [if_pos (hb.2 h), if_pos h]
    · rw [if_neg (fun x => h (hb.1 x)), if_neg h]
      by_cases h1 : isGood d.data.toList = true
      · rw [if_pos h1, if_pos h1]
        by_cases h2 : isGood n.data.toList = true
        · rw [if_pos h2, if_pos h2]
        · rw [if_neg h2, if_neg h2]; rfl
      · rw [if_neg h1, if_neg h1]; rfl
  unfold messuageref04_Join.f
  by_cases h0 : (n.size : Int) > 0
  · rw [if_pos h0, if_pos h0]
    refine key _ ?_
    rw [pre1]
    have := bt_head n (by omega)
    rw [bne_iff_ne] at this
    rw [beq_iff_eq]
    exact ⟨fun h => Classical.byContradiction fun h2 => (this.2 h2) h, fun h => Classical.byContradiction fun h2 => this.1 h2 h⟩
  · rw [if_neg h0]
    refine key false ?_
    have e0 : n.data.toList = [] := List.length_eq_zero_iff.1 (by rw [data_len]; omega)
    rw [e0]
    simp

theorem PathJoins : messuagelaw04_PathJoins.Pure := by
  intro d n _ _
  refine ⟨20000, ?_⟩
  unfold messuagelaw04_PathJoins.f
  have out : messuagelaw04_PathJoins.j0 20000 d n true = some true := by simp only [messuagelaw04_PathJoins.j0, if_true]
  by_cases h : (d.size : Int) > 4096
  · rw [if_pos h, out]
  · rw [if_neg h]
    by_cases h2 : (n.size : Int) > 4096
    · rw [decide_eq_true h2, out]
    · rw [decide_eq_false h2]
      simp only [messuagelaw04_PathJoins.j0]
      rw [rjoin_eq d n 19999 (by omega) (by omega), alive_eq 19999 (by omega), join_eq d n 19999 (by omega) (by omega)]
      simp

end Go.Proofs.YtbkhkdadipigfaaDoor.Pure
