/- Places that are written are read as they were, from no more words than places: the plain statement. No condition. -/
import Derived.Test.YtpddjphanhkkfaaRelrBackL
import Derived.Test.YtpddjphanhkkfaaPx4
namespace Go.Proofs.Ytpddjphanhkkfaa.Pure
open Go.Proofs.Ytpddjphanhkkfaa.RelrFacts Go.Proofs.Ytpddjphanhkkfaa.RelrBackL Go.RowKit Go.Proofs.Ytpddjphanhkkfaa.P Go.Proofs.Ytpddjphanhkkfaa.RelrPure Go.Proofs.Ytpddjphanhkkfaa.RelrEncPure Go.Proofs.YtpddjphanhkkfaaW.PrintWords Go.Proofs.YtpddjphanhkkfaaW.PrintLast

theorem fin (l : List Int) (same : List Int → Option Bool) (hs : same l = some true) (p : Prop) [Decidable p] (hp : p) (al : Option Bool) (ha : al = some true) :
    ((some (l, (0 : Int))).bind fun bt => if bt.2 = 0 then (same bt.1).bind fun t => if t = true then (if p then al.bind fun t => some t else some false) else some false else some false) = some true := by
  subst ha
  simp [hp, hs]
theorem RelrBack : messuagelaw13_RelrBack.Pure := by
  intro l hl1 hl2 hw
  have hb := words_of hw
  refine ⟨l.length + 2000, ?_⟩
  unfold messuagelaw13_RelrBack.f
  by_cases h : (l.length : Int) > 1000
  · rw [if_pos h]
  · have hs := same_self l (by omega) (l.length + 2000) (by omega)
    rw [if_neg h, encode_f hb]
    simp only [Option.bind_some]
    have he := encode_err l
    have hk := back l hb
    obtain ⟨b, e, hbe⟩ : ∃ b e, RelrEncPure.encode l = (b, e) := ⟨_, _, rfl⟩
    rw [hbe] at he hk ⊢
    simp only at he ⊢
    by_cases h0 : e = 0
    · subst h0
      obtain ⟨k1, k2, k3⟩ := hk b rfl
      have hle : (b.length : Int) ≤ wrap64 (8 * (l.length : Int)) := by
        clear k1 k3 he hbe
        rw [w64i _ (by omega) (by omega)]
        omega
      rw [if_pos rfl, decode_f k3, k1]
      exact fin l _ hs _ hle _ alive_yes
    · rw [if_neg h0]
      obtain rfl := he.resolve_left h0
      rw [if_pos (by simp), alive_yes]
      rfl
end Go.Proofs.Ytpddjphanhkkfaa.Pure
