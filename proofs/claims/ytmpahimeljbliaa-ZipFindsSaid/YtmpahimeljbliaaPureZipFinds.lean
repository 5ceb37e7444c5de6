/- Where the bytes of an entry stand in each archive, or why they can't be had: the plain statement. No condition. -/
import Derived.Test.YtmpahimeljbliaaPx3
import Derived.Test.YtmpahimeljbliaaZipPureA
namespace Go.Proofs.Ytmpahimeljbliaa.Pure
open Go.RowKit Go.Proofs.Ytmpahimeljbliaa.P Go.Proofs.YtmpahimeljbliaaW.PrintWords Go.Proofs.YtmpahimeljbliaaW.PrintLast
open ZipPureA ZipNumP
theorem ZipFinds : messuagelaw07_ZipFinds.Pure := by
  intro l s _ h1 hw _
  have hb := bytes_of_wf hw
  unfold messuagelaw07_ZipFinds.f
  by_cases c : (l.length : Int) > 263144
  · exact ⟨0, by rw [if_pos c]⟩
  refine ⟨70000, ?_⟩
  rw [if_neg c, find_f l hb (by omega) s _ (by omega), Option.bind_some, messuageref07_Find.f, if_pos ⟨hb, by omega⟩, Option.bind_some, if_pos rfl, if_pos rfl, if_pos rfl]
  rfl
end Go.Proofs.Ytmpahimeljbliaa.Pure
