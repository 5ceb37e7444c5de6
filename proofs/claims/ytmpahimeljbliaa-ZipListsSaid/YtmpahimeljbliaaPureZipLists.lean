/- The entries of each archive, or that it is none: the plain statement. No condition. -/
import Derived.Test.YtmpahimeljbliaaPx3
import Derived.Test.YtmpahimeljbliaaZipPureA
namespace Go.Proofs.Ytmpahimeljbliaa.Pure
open Go.RowKit Go.Proofs.Ytmpahimeljbliaa.P Go.Proofs.YtmpahimeljbliaaW.PrintWords Go.Proofs.YtmpahimeljbliaaW.PrintLast
open ZipPureA ZipNumP

theorem lists_l0 (rows : List ZipWalk.RowE) (h6 : rows.length ≤ 65536) : ∀ (d j k : Nat), j + d = rows.length → d + 2 < k → messuagelaw07_ZipLists.l0 k (rows.map zip_list.conv) (rows.map messuageref07_List.conv) j = some true
  | 0, j, k, hj, hk => by
    obtain ⟨k, rfl⟩ : ∃ m, k = m + 1 := ⟨k - 1, by omega⟩
    rw [messuagelaw07_ZipLists.l0, if_neg (by simp; omega)]
    rfl
  | d + 1, j, k, hj, hk => by
    obtain ⟨k, rfl⟩ : ∃ m, k = m + 1 := ⟨k - 1, by omega⟩
    have hjl : j < rows.length := by omega
    have ih := lists_l0 rows h6 d (j + 1) k (by omega) (by omega)
    have c1 : (j : Int) < ((rows.map zip_list.conv).length : Int) := by simp; omega
    have c2 : (j : Int) < ((rows.map messuageref07_List.conv).length : Int) := by simp; omega
    have c0 : (0 : Int) ≤ (j : Int) := by omega
    have hw : wrap64 ((j : Int) + 1) = ((j + 1 : Nat) : Int) := by rw [w64i _ (by omega) (by omega)]; omega
    rw [messuagelaw07_ZipLists.l0, if_pos c1, if_pos c0, if_pos c2, rd_map rows j hjl, rd_map33 rows j hjl, hw]
    simp only [zip_list.conv, messuageref07_List.conv, if_true]
    exact ih
theorem ZipLists : messuagelaw07_ZipLists.Pure := by
  intro l _ h1 hw
  have hb := bytes_of_wf hw
  unfold messuagelaw07_ZipLists.f
  by_cases c : (l.length : Int) > 263144
  · exact ⟨0, by rw [if_pos c]⟩
  refine ⟨70000, ?_⟩
  have hl := res_len l hb
  rw [if_neg c, zip_List.f, list_some l hb (by omega), Option.bind_some, Option.bind_some, ref_some l hb (by omega), Option.bind_some, if_pos rfl, messuagelaw07_ZipLists.j0, if_neg (by simp)]
  exact lists_l0 _ hl (ZipWalk.listRes l).1.length 0 _ (by omega) (by omega)
end Go.Proofs.Ytmpahimeljbliaa.Pure
