/-
  What is cleaned is clean, and is the folder above and its last name. No condition beyond the sizes of memory.
-/
import Derived.Test.YtbkhkdadipigfaaDoorPathEq
namespace Go.Proofs.YtbkhkdadipigfaaDoor.Pure
open Go.RowKit Go.Proofs.YtbkhkdadipigfaaDoor.P Go.Proofs.YtbkhkdadipigfaaDoorW.PrintWords Go.Proofs.YtbkhkdadipigfaaDoorW.PrintLast
open Go.Proofs.YtbkhkdadipigfaaDoor.PathL Go.Proofs.YtbkhkdadipigfaaDoor.PathEq

theorem cleanR_ok (l : Bs) (h : (cleanR l).2 = 0) : isGood l = true ∧ (∃ r, l = 47 :: r) ∧ (cleanR l).1 = mkB (render (clean l)) := by
  unfold cleanR at h ⊢
  by_cases hc : isGood l = true ∧ l.head? = some 47
  · rw [if_pos hc] at h ⊢
    exact ⟨hc.1, head_cons hc.2, rfl⟩
  · rw [if_neg hc] at h
    simp at h
theorem cleanR_of (l : Bs) (hg : isGood (47 :: l) = true) : cleanR (47 :: l) = (mkB (render (clean (47 :: l))), 0) := by
  unfold cleanR
  rw [if_pos ⟨hg, rfl⟩]
theorem cleanR_bad (l : Bs) (h : ¬ (cleanR l).2 = 0) : cleanR l = (mkB [], 40) := by
  unfold cleanR at h ⊢
  split
  · rename_i hc; rw [if_pos hc] at h; exact absurd rfl h
  · rfl
theorem cleanR_render (ns : List Bs) (hn : ∀ s ∈ ns, nm s) (hg : isGood (render ns) = true) : cleanR (render ns) = (mkB (render ns), 0) := by
  obtain ⟨r, hr⟩ := render_head ns
  have := cleanR_of r (by rw [← hr]; exact hg)
  rw [← hr, clean_render ns hn] at this
  exact this

theorem good_up (ms : List Bs) (b : Bs) (h : isGood (render (ms ++ [b])) = true) : isGood (render ms) = true := by
  rw [isGood_iff] at h ⊢
  rw [render_snoc] at h
  unfold render
  split
  · exact ⟨by decide, by decide⟩
  · obtain ⟨h1, h2⟩ := h
    rw [List.length_append] at h1
    exact ⟨by omega, fun x hx => h2 x (List.mem_append_left _ hx)⟩
theorem snoc_of {ns : List Bs} (h : ns ≠ []) : ∃ ms b, ns = ms ++ [b] := ⟨ns.dropLast, ns.getLast h, (List.dropLast_concat_getLast h).symm⟩

theorem PathStays : messuagelaw04_PathStays.Pure := by
  intro p _
  refine ⟨20000, ?_⟩
  unfold messuagelaw04_PathStays.f
  by_cases h : (p.size : Int) > 4096
  · rw [if_pos h]
  · rw [if_neg h, clean_eq p 20000 (by omega) (by omega)]
    simp only [Option.bind_some]
    by_cases h0 : (cleanR p.data.toList).2 = 0
    · obtain ⟨hg, ⟨r, hr⟩, hc⟩ := cleanR_ok _ h0
      rw [if_pos h0, hc, hr]
      rw [hr] at hg
      have hlen := render_len r
      have hpl : p.size = r.length + 1 := by rw [← data_len, hr]; rfl
      have hgc := good_clean r hg
      have hnm := clean_nm (47 :: r)
      generalize clean (47 :: r) = ns at hlen hgc hnm ⊢
      have hsz : (mkB (render ns)).size ≤ 256 := by rw [mkB_size]; exact ((isGood_iff _).1 hgc).1
      have hcr := cleanR_render ns hnm hgc
      have hic : path_IsClean.f 20000 (mkB (render ns)) = some true := by
        rw [isClean_eq _ 20000 (by omega) (by omega), mkB_data, hcr, mkB_data]
        simp
      have hun : path_Under.f (mkB (render ns)) (⟨#[47]⟩ : ByteArray) = some true := by
        rw [under_eq _ _ (by decide), mkB_data]
        obtain ⟨t, ht⟩ := render_head ns
        rw [ht]
        rfl
      rw [clean_eq (mkB (render ns)) 20000 (by omega) (by omega), mkB_data, hcr, hic, hun]
      simp only [Option.bind_some, if_true]
      rw [if_neg (by rw [mkB_size]; omega)]
      simp only [messuagelaw04_PathStays.j0, Bool.not_true, Bool.false_eq_true, if_false]
      rw [PathEq.mt]
      by_cases hn : ns = []
      · subst hn
        have e : render ([] : List Bs) = [47] := rfl
        rw [e, if_pos rfl, base_eq _ 19999 (by rw [mkB_size]; show 1 < 19999; omega) (by rw [mkB_size]; show 1 ≤ 900000; omega), up_eq _ 19999 (by rw [mkB_size]; show 1 < 19999; omega) (by rw [mkB_size]; show 1 ≤ 900000; omega), alive_eq 19999 (by omega), mkB_data]
        simp only [Option.bind_some, PathEq.mt]
        rfl
      · obtain ⟨ms, b, rfl⟩ := snoc_of hn
        have hb : nm b := hnm b (by simp)
        have hms : ∀ s ∈ ms, nm s := fun s hs => hnm s (by simp [hs])
        have hgu := good_up ms b hgc
        have hne : ¬ render (ms ++ [b]) = [47] := by
          intro e
          have := render_inj hnm (by simp : ∀ s ∈ ([] : List Bs), nm s) (e.trans rfl)
          simp at this
        have hus : (mkB (render ms)).size ≤ 256 := by rw [mkB_size]; exact ((isGood_iff _).1 hgu).1
        have hbs : (mkB b).size ≤ 256 := by
          rw [mkB_size]
          have := ((isGood_iff _).1 hgc).1
          rw [render_snoc, List.length_append, List.length_cons] at this
          omega
        rw [if_neg hne, up_eq _ 19999 (by omega) (by omega), base_eq _ 19999 (by omega) (by omega), mkB_data, up_render ms b hb, base_render ms b hb]
        simp only [Option.bind_some]
        have es : (mkB (render ms) ++ (⟨#[47]⟩ : ByteArray)).size = (mkB (render ms)).size + 1 := by rw [← data_len, slash_data, List.length_append, data_len]; rfl
        rw [if_pos (by omega), es, if_pos (by omega), PathEq.mt]
        have fin : ∀ wh : ByteArray, wh.data.toList = render (ms ++ [b]) → messuagelaw04_PathStays.j1 19999 (mkB (render (ms ++ [b]))) (mkB (render ms)) (mkB b) wh = some true := by
          intro wh hw
          simp only [messuagelaw04_PathStays.j1]
          have h1 : path_IsClean.f 19998 (mkB (render ms)) = some true := by
            rw [isClean_eq _ 19998 (by omega) (by omega), mkB_data, cleanR_render ms hms hgu, mkB_data]
            simp
          have h2 : path_Child.f 19998 (mkB (render (ms ++ [b]))) (mkB (render ms)) = some true := by
            rw [child_eq _ _ 19998 (by omega) (by omega), mkB_data, mkB_data]
            unfold child
            rw [up_render ms b hb, beq_eq_false_iff_ne.2 hne]
            have : ¬ render (ms ++ [b]) = [] := by
              obtain ⟨t, ht⟩ := render_head (ms ++ [b])
              rw [ht]; simp
            rw [beq_eq_false_iff_ne.2 this]
            simp
          have h3 : path_Under.f (mkB (render (ms ++ [b]))) (mkB (render ms)) = some true := by
            rw [under_eq _ _ (by omega), mkB_data, mkB_data, (under_render hnm hms).2 ⟨[b], rfl⟩]
          have h4 : path_Under.f (mkB (render ms)) (mkB (render (ms ++ [b]))) = some false := by
            rw [under_eq _ _ (by omega), mkB_data, mkB_data]
            congr 1
            rw [Bool.eq_false_iff]
            intro e
            obtain ⟨c, hc⟩ := (under_render hms hnm).1 e
            have := congrArg List.length hc
            simp at this
          rw [tl, hw, PathEq.mt, if_pos rfl, PathEq.mt, if_neg hb.1, h1, h2, h3, h4, alive_eq 19998 (by omega)]
          simp only [Option.bind_some, if_true, Bool.false_eq_true, if_false]
        by_cases hu : render ms = [47]
        · rw [if_pos hu, if_pos (by omega)]
          refine fin _ ?_
          have hm0 : ms = [] := render_inj hms (by simp) (hu.trans rfl)
          subst hm0
          rw [ByteArray.data_append, Array.toList_append, mkB_data, render_snoc]
          rfl
        · rw [if_neg hu]
          refine fin _ ?_
          have hm0 : ms ≠ [] := fun e => hu (by rw [e]; rfl)
          rw [ByteArray.data_append, Array.toList_append, slash_data, mkB_data, mkB_data, render_snoc]
          have : render ms = flat ms := by unfold render; rw [if_neg hm0]
          rw [this]
          simp
    · rw [if_neg h0, cleanR_bad _ h0, alive_eq 20000 (by omega), PathEq.mt]
      rfl

end Go.Proofs.YtbkhkdadipigfaaDoor.Pure
