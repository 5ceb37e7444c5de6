/- The places that each list tells, or that it tells none: the plain statement. No condition. -/
import Derived.Test.YtpddjphanhkkfaaRelrFacts
namespace Go.Proofs.Ytpddjphanhkkfaa.Pure
open Go.Proofs.Ytpddjphanhkkfaa.RelrFacts Go.RowKit Go.Proofs.Ytpddjphanhkkfaa.P Go.Proofs.YtpddjphanhkkfaaW.PrintWords Go.Proofs.YtpddjphanhkkfaaW.PrintLast

theorem RelrReads : messuagelaw13_RelrReads.Pure := by
  intro l hl1 hl2 hw
  have hb := bytes_of hw
  refine ⟨70 * l.length + 700, ?_⟩
  unfold messuagelaw13_RelrReads.f
  by_cases h : (l.length : Int) > 8192
  · rw [if_pos h]
  · rw [if_neg h, decode_f hb, ref_decode l hb (by omega) _ (by omega)]
    simp only [Option.bind_some]
    have hlen := decode_len l
    rw [same_self _ (by omega) _ (by omega)]
    simp only [Option.bind_some, if_true]
    rw [alive_yes]
    rfl

end Go.Proofs.Ytpddjphanhkkfaa.Pure
