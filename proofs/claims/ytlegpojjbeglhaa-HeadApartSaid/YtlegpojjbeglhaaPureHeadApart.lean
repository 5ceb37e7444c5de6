/- The parts of what is read lie apart: the plain statement. No condition. -/
import Derived.Test.YtlegpojjbeglhaaHeadParse
import Derived.Test.YtlegpojjbeglhaaPx10d
namespace Go.Proofs.Ytlegpojjbeglhaa.Pure
open Go.RowKit Go.Proofs.Ytlegpojjbeglhaa.P Go.Proofs.Ytlegpojjbeglhaa.HeadPure Go.Proofs.Ytlegpojjbeglhaa.HeadFacts Go.Proofs.Ytlegpojjbeglhaa.HeadParse Go.Proofs.YtlegpojjbeglhaaW.PrintWords Go.Proofs.YtlegpojjbeglhaaW.PrintLast Go.Proofs.YtlegpojjbeglhaaW.PrintMore

theorem good_end {L : Int} {p : S32} (h : HeadParse.Good L p) : head_End.f p.f0 p.f1 p.f2 p.f3 p.f4 p.f5 p.f6 = some (endI p) := end_at p h.2.1 h.2.2.1 (by have := h.2.2.2.1; omega) h.2.2.2.2.1
theorem span_at (L : Int) (c0 c2 c3 c4 c5 c6 c7 c8 c9 c10 c11 c12 c13 c14 c15 : Int) (l : List S32) (hl : l.length ≤ 16) (hp : 0 < l.length) (hc : Chain L l) :
    head_Span.f c0 l c2 c3 c4 c5 c6 c7 c8 c9 c10 c11 c12 c13 c14 c15 = some (endI (rd_T32 l ((l.length : Int) - 1)) / 256) := by
  unfold head_Span.f
  have hg := (hc (l.length - 1) (by omega)).1
  rw [show ((l.length - 1 : Nat) : Int) = (l.length : Int) - 1 by omega] at hg
  rw [if_neg (by omega), w64i _ (by omega) (by omega), if_pos (by omega), if_pos (by omega), good_end hg]
  simp only [Option.bind_some]
  obtain ⟨g0, g1, g2, g3, g4, g5, g6, g7, g8, g9⟩ := hg
  unfold endI at g9
  unfold num_Pages.f endI
  generalize rd_T32 l ((l.length : Int) - 1) = p at *
  have e : (p.f3 + (p.f5 + 255) / 256 * 256) % 256 = 0 := by omega
  have e0 : 0 ≤ p.f3 + (p.f5 + 255) / 256 * 256 := by omega
  generalize p.f3 + (p.f5 + 255) / 256 * 256 = z at *
  rw [Int.tdiv_eq_ediv_of_nonneg e0, Int.tmod_eq_emod_of_nonneg e0, e]
  have : mn 0 1 = 0 := by decide
  rw [this, w64 (z / 256) (by omega) (by omega), w64 (z / 256 + 0) (by omega) (by omega)]
  simp only [Option.bind_some]
  rw [w64i _ (by omega) (by omega), Int.add_zero]
theorem apart_at (b : List Int) (hb : b.length ≤ 4611686018427387904) (c0 c2 c3 c4 c5 c6 c7 c8 c9 c10 c11 c12 c13 c14 c15 : Int) (l : List S32) (hl : l.length ≤ 16) (hp : 0 < l.length) (hc : Chain b.length l) : ∀ (d i k : Nat), l.length - i = d → i ≤ l.length → 3 * d + 3 < k →
    messuagelaw08_HeadApart.l0 k b (if i = 0 then 0 else endI (rd_T32 l ((i : Int) - 1))) i c0 l c2 c3 c4 c5 c6 c7 c8 c9 c10 c11 c12 c13 c14 c15 = some true := by
  intro d
  induction d with
  | zero =>
    intro i k hd hi hk
    obtain ⟨k, rfl⟩ : ∃ m, k = m + 1 := ⟨k - 1, by omega⟩
    obtain rfl : i = l.length := by omega
    simp only [messuagelaw08_HeadApart.l0]
    rw [if_neg (by omega), if_pos (by omega), span_at b.length c0 c2 c3 c4 c5 c6 c7 c8 c9 c10 c11 c12 c13 c14 c15 l hl hp hc]
    simp only [Option.bind_some]
    have hg := (hc (l.length - 1) (by omega)).1
    rw [show ((l.length - 1 : Nat) : Int) = (l.length : Int) - 1 by omega] at hg
    obtain ⟨g0, g1, g2, g3, g4, g5, g6, g7, g8, g9⟩ := hg
    have hz : 0 ≤ endI (rd_T32 l ((l.length : Int) - 1)) ∧ endI (rd_T32 l ((l.length : Int) - 1)) % 256 = 0 := by
      unfold endI at *
      omega
    rw [show (if l.length = 0 then (0 : Int) else endI (rd_T32 l ((l.length : Int) - 1))) = endI (rd_T32 l ((l.length : Int) - 1)) from if_neg (by omega)]
    generalize endI (rd_T32 l ((l.length : Int) - 1)) = z at *
    rw [w64 (z / 256) (by omega) (by omega), w64 (z / 256 * 256) (by omega) (by omega), if_pos (by omega), if_pos (by omega), messuagelaw08_alive.is]
    rfl
  | succ d ih =>
    intro i k hd hi hk
    obtain ⟨k, rfl⟩ : ∃ m, k = m + 2 := ⟨k - 2, by omega⟩
    have hil : i < l.length := by omega
    obtain ⟨hg, h0, h1⟩ := hc i hil
    have hge := good_end hg
    simp only [messuagelaw08_HeadApart.l0]
    rw [if_pos (by omega), if_pos (by omega)]
    have hx5 : ¬ (rd_T32 l (i : Int)).f3 < (if i = 0 then 0 else endI (rd_T32 l ((i : Int) - 1))) := by
      by_cases hi0 : i = 0
      · rw [if_pos hi0]
        have := hg.2.1
        omega
      · rw [if_neg hi0]
        have := h1 (by omega)
        omega
    rw [if_neg hx5, Int.tmod_eq_emod_of_nonneg hg.2.1, if_pos hg.1, hge]
    simp only [Option.bind_some]
    have hnext := ih (i + 1) k (by omega) (by omega) (by omega)
    rw [if_neg (by omega), show ((i + 1 : Nat) : Int) - 1 = (i : Int) by omega] at hnext
    obtain ⟨g0, g1, g2, g3, g4, g5, g6, g7, g8, g9⟩ := hg
    generalize rd_T32 l (i : Int) = p at *
    have he : endI p = p.f3 + (p.f5 + 255) / 256 * 256 := rfl
    rw [Int.tmod_eq_emod_of_nonneg (by omega), if_pos (by omega), w64 (endI p - p.f3) (by omega) (by omega), if_neg (by omega), w64 (endI p - p.f3 - p.f5) (by omega) (by omega)]
    rw [show decide (endI p - p.f3 - p.f5 ≥ 256) = false from decide_eq_false (by omega)]
    simp only [messuagelaw08_HeadApart.j1, Bool.false_eq_true, if_false]
    rw [w64 (b.length : Int) (by omega) (by omega), if_neg (by omega), w64 ((b.length : Int) - p.f2) (by omega) (by omega), if_neg (by omega), if_neg (by omega), hge]
    simp only [Option.bind_some]
    rw [w64i _ (by omega) (by omega)]
    exact hnext
theorem HeadApart : messuagelaw08_HeadApart.Pure := by
  intro l _ _ hw
  have hl := bytes_of_wf hw
  unfold messuagelaw08_HeadApart.f
  by_cases c : (l.length : Int) > 262144
  · exact ⟨0, by rw [if_pos c]⟩
  have hlen : l.length ≤ 4611686018427387904 := by omega
  refine ⟨200, ?_⟩
  rw [if_neg c]
  obtain ⟨c0, c1, c2, c3, c4, c5, c6, c7, c8, c9, c10, c11, c12, c13, c14, c15, e, he, h16, h⟩ := parse_told l hl hlen 200 (by omega)
  rw [he]
  simp only [Option.bind_some]
  rcases h with ⟨rfl, hp, hc⟩ | ⟨hne, rfl⟩
  · rw [if_pos rfl]
    exact apart_at l hlen c0 c2 c3 c4 c5 c6 c7 c8 c9 c10 c11 c12 c13 c14 c15 c1 h16 hp hc c1.length 0 200 (by omega) (by omega) (by omega)
  · rw [if_neg hne]
    simp [messuagelaw08_alive.is]
end Go.Proofs.Ytlegpojjbeglhaa.Pure
