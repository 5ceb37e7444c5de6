/- The program headers of each file, or why there are none: the plain statement. No condition. -/
import Derived.Test.YtlegpojjbeglhaaHeadFacts
import Derived.Test.YtlegpojjbeglhaaPx9
namespace Go.Proofs.Ytlegpojjbeglhaa.Pure
open Go.RowKit Go.Proofs.Ytlegpojjbeglhaa.P Go.Proofs.Ytlegpojjbeglhaa.HeadPure Go.Proofs.Ytlegpojjbeglhaa.HeadFacts Go.Proofs.YtlegpojjbeglhaaW.PrintWords Go.Proofs.YtlegpojjbeglhaaW.PrintLast

theorem tables_same (x : List S32) (hx : x.length ≤ 1000000) : ∀ (d i k : Nat), x.length - i = d → i ≤ x.length → d + 1 < k → messuagelaw08_HeadTables.l0 k x x i = some true := by
  intro d
  induction d with
  | zero =>
    intro i k hd hi hk
    obtain ⟨k, rfl⟩ : ∃ m, k = m + 1 := ⟨k - 1, by omega⟩
    simp only [messuagelaw08_HeadTables.l0]
    rw [if_neg (by omega), messuagelaw08_alive.is]
    rfl
  | succ d ih =>
    intro i k hd hi hk
    obtain ⟨k, rfl⟩ : ∃ m, k = m + 1 := ⟨k - 1, by omega⟩
    simp only [messuagelaw08_HeadTables.l0]
    rw [if_pos (by omega), if_pos (by omega), if_pos (by omega)]
    simp only [BEq.rfl, Bool.not_true, Bool.or_false, Bool.false_eq_true, if_false]
    rw [w64i _ (by omega) (by omega)]
    exact ih (i + 1) k (by omega) (by omega) (by omega)
theorem table_small (l : List Int) (hl : Bytes l) : ((tableOf l).1.map head_Table.conv).length ≤ 1000000 := by
  unfold tableOf
  split
  · simp
  · split
    · rename_i h
      have := h.2.2.2.1
      simp
      omega
    · simp
theorem HeadTables : messuagelaw08_HeadTables.Pure := by
  intro l _ _ hw
  have hl := bytes_of_wf hw
  unfold messuagelaw08_HeadTables.f
  by_cases c : (l.length : Int) > 262144
  · exact ⟨0, by rw [if_pos c]⟩
  have hlen : l.length ≤ 4611686018427387904 := by omega
  refine ⟨1000100, ?_⟩
  rw [if_neg c, table_ref l hl hlen _ (by omega)]
  unfold head_Table.f
  rw [if_pos ⟨hl, hlen⟩]
  simp only [Option.bind_some, if_true, bne_self_eq_false]
  rw [messuagelaw08_HeadTables.j0]
  simp only [Bool.false_eq_true, if_false]
  have := table_small l hl
  exact tables_same _ this _ 0 _ rfl (Nat.zero_le _) (by omega)
end Go.Proofs.Ytlegpojjbeglhaa.Pure
