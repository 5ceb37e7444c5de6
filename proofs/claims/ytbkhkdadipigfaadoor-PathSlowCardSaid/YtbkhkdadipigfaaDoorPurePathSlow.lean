/-
  Cleaned piece by piece a path is the same. No condition beyond the sizes of memory.
-/
import Derived.Test.YtbkhkdadipigfaaDoorPathEq
namespace Go.Proofs.YtbkhkdadipigfaaDoor.Pure
open Go.RowKit Go.Proofs.YtbkhkdadipigfaaDoor.P Go.Proofs.YtbkhkdadipigfaaDoorW.PrintWords Go.Proofs.YtbkhkdadipigfaaDoorW.PrintLast
open Go.Proofs.YtbkhkdadipigfaaDoor.PathL Go.Proofs.YtbkhkdadipigfaaDoor.PathEq

theorem cleanR_ok (l : Bs) (h : (cleanR l).2 = 0) : isGood l = true ∧ (∃ r, l = 47 :: r) ∧ (cleanR l).1 = mkB (render (clean l)) := by
  unfold cleanR at h ⊢
  by_cases hc : isGood l = true ∧ l.head? = some 47
  · rw [if_pos hc] at h ⊢
    exact ⟨hc.1, head_cons hc.2, rfl⟩
  · rw [if_neg hc] at h
    simp at h
theorem cleanR_of (l : Bs) (hg : isGood (47 :: l) = true) : cleanR (47 :: l) = (mkB (render (clean (47 :: l))), 0) := by
  unfold cleanR
  rw [if_pos ⟨hg, rfl⟩]
theorem cleanR_bad (l : Bs) (h : ¬ (cleanR l).2 = 0) : cleanR l = (mkB [], 40) := by
  unfold cleanR at h ⊢
  split
  · rename_i hc; rw [if_pos hc] at h; exact absurd rfl h
  · rfl
theorem cleanR_render (ns : List Bs) (hn : ∀ s ∈ ns, nm s) (hg : isGood (render ns) = true) : cleanR (render ns) = (mkB (render ns), 0) := by
  obtain ⟨r, hr⟩ := render_head ns
  have := cleanR_of r (by rw [← hr]; exact hg)
  rw [← hr, clean_render ns hn] at this
  exact this

theorem good_parts (x y : Bs) (h : isGood (x ++ 47 :: y) = true) : isGood y = true := by
  rw [isGood_iff] at h ⊢
  obtain ⟨h1, h2⟩ := h
  rw [List.length_append, List.length_cons] at h1
  exact ⟨by omega, fun b hb => h2 b (by simp [hb])⟩

theorem PathSlow : messuagelaw04_PathSlow.Pure := by
  intro p q _ _
  refine ⟨20000, ?_⟩
  unfold messuagelaw04_PathSlow.f
  have out : messuagelaw04_PathSlow.j0 20000 p q true = some true := by simp only [messuagelaw04_PathSlow.j0, if_true]
  by_cases h : (p.size : Int) > 100
  · rw [if_pos h, out]
  · rw [if_neg h]
    by_cases h2 : (q.size : Int) > 100
    · rw [decide_eq_true h2, out]
    · rw [decide_eq_false h2]
      have e : ((p ++ (⟨#[47]⟩ : ByteArray)) ++ q).data.toList = p.data.toList ++ 47 :: q.data.toList := by
        rw [ByteArray.data_append, Array.toList_append, slash_data]; simp
      have e1 : (p ++ (⟨#[47]⟩ : ByteArray)).size = p.size + 1 := by rw [← data_len, slash_data, List.length_append, data_len]; rfl
      have e2 : ((p ++ (⟨#[47]⟩ : ByteArray)) ++ q).size = p.size + q.size + 1 := by rw [← data_len, e, List.length_append, List.length_cons, data_len, data_len]; omega
      simp only [messuagelaw04_PathSlow.j0, Bool.false_eq_true, if_false]
      rw [clean_eq p 19999 (by omega) (by omega), clean_eq _ 19999 (by rw [e2]; omega) (by rw [e2]; omega), e1, e]
      simp only [Option.bind_some]
      rw [if_pos (by omega), if_pos (by omega)]
      have stop : ∀ a b : ByteArray, messuagelaw04_PathSlow.j1 19999 q a b true = some true := by
        intro a b
        simp only [messuagelaw04_PathSlow.j1, if_true]
        rw [alive_eq 19998 (by omega)]
        rfl
      by_cases h0 : (cleanR p.data.toList).2 = 0
      · rw [if_pos h0]
        by_cases h3 : (cleanR (p.data.toList ++ 47 :: q.data.toList)).2 = 0
        · have hb : ((cleanR (p.data.toList ++ 47 :: q.data.toList)).2 != 0) = false := by rw [h3]; rfl
          rw [hb]
          obtain ⟨hg, ⟨r, hr⟩, hc⟩ := cleanR_ok _ h0
          obtain ⟨hg2, _, hc2⟩ := cleanR_ok _ h3
          have hgq := good_parts _ _ hg2
          rw [hc, hc2, clean_join]
          have hnm := clean_nm p.data.toList
          have hgc : isGood (render (clean p.data.toList)) = true := by rw [hr]; exact good_clean r (by rw [← hr]; exact hg)
          have hlen : (render (clean p.data.toList)).length ≤ p.size := by
            have := render_len r
            rw [← hr] at this
            have h4 : p.size = r.length + 1 := by rw [← data_len, hr]; rfl
            omega
          have hpc : clean p.data.toList = clean (render (clean p.data.toList)) := (clean_render _ hnm).symm
          generalize clean p.data.toList = ns at hnm hgc hlen hpc ⊢
          have en : ((⟨#[46, 47]⟩ : ByteArray) ++ q).data.toList = 46 :: 47 :: q.data.toList := by
            rw [ByteArray.data_append, Array.toList_append]; rfl
          have en2 : ((⟨#[46, 47]⟩ : ByteArray) ++ q).size = q.size + 2 := by rw [← data_len, en, List.length_cons, List.length_cons, data_len]
          have hgn : isGood (46 :: 47 :: q.data.toList) = true := by
            rw [isGood_iff] at hgq ⊢
            refine ⟨by simp only [List.length_cons, data_len]; omega, fun b hb => ?_⟩
            rcases List.mem_cons.1 hb with rfl | hb
            · decide
            · rcases List.mem_cons.1 hb with rfl | hb
              · decide
              · exact hgq.2 b hb
          have hgw : isGood (render ns ++ 47 :: 46 :: 47 :: q.data.toList) = true := by
            rw [isGood_iff] at hgc hgn ⊢
            refine ⟨by simp only [List.length_append, List.length_cons, data_len]; omega, fun b hb => ?_⟩
            rcases List.mem_append.1 hb with hb | hb
            · exact hgc.2 b hb
            · rcases List.mem_cons.1 hb with rfl | hb
              · decide
              · exact hgn.2 b hb
          obtain ⟨t, ht⟩ := render_head ns
          have hfin : cleanR (render ns ++ 47 :: 46 :: 47 :: q.data.toList) = (mkB (render ((parts q.data.toList).foldl push ns)), 0) := by
            have h5 := cleanR_of (t ++ 47 :: 46 :: 47 :: q.data.toList) (by rw [ht] at hgw; exact hgw)
            have h6 : 47 :: (t ++ 47 :: 46 :: 47 :: q.data.toList) = render ns ++ 47 :: 46 :: 47 :: q.data.toList := by rw [ht]; rfl
            rw [h6, clean_join, clean_render ns hnm] at h5
            have h7 : parts (46 :: 47 :: q.data.toList) = parts q.data.toList := by
              have := parts_join [46] q.data.toList
              rw [show [46] ++ 47 :: q.data.toList = 46 :: 47 :: q.data.toList from rfl] at this
              rw [this]
              rfl
            rw [h7] at h5
            exact h5
          simp only [messuagelaw04_PathSlow.j1, Bool.false_eq_true, if_false]
          rw [if_pos (by omega), join_eq _ _ 19998 (by rw [mkB_size, en2]; omega) (by rw [mkB_size, en2]; omega), mkB_data, en, alive_eq 19998 (by omega)]
          have h8 : ¬ ([47].isPrefixOf (46 :: 47 :: q.data.toList) = true) := by rw [pre1]; simp
          rw [if_neg h8, if_pos hgc, if_pos hgn, hfin]
          simp
        · have hb : ((cleanR (p.data.toList ++ 47 :: q.data.toList)).2 != 0) = true := by rw [bne_iff_ne]; exact h3
          rw [hb, stop]
      · rw [if_neg h0, stop]

end Go.Proofs.YtbkhkdadipigfaaDoor.Pure
