/-
  What is below a folder that is below another one is below that, too; a child is below; the root is above all. No condition beyond the sizes of memory.
-/
import Derived.Test.YtbkhkdadipigfaaDoorPathEq
namespace Go.Proofs.YtbkhkdadipigfaaDoor.Pure
open Go.RowKit Go.Proofs.YtbkhkdadipigfaaDoor.P Go.Proofs.YtbkhkdadipigfaaDoorW.PrintWords Go.Proofs.YtbkhkdadipigfaaDoorW.PrintLast
open Go.Proofs.YtbkhkdadipigfaaDoor.PathL Go.Proofs.YtbkhkdadipigfaaDoor.PathEq

theorem cleanR_ok (l : Bs) (h : (cleanR l).2 = 0) : isGood l = true ∧ (∃ r, l = 47 :: r) ∧ (cleanR l).1 = mkB (render (clean l)) := by
  unfold cleanR at h ⊢
  by_cases hc : isGood l = true ∧ l.head? = some 47
  · rw [if_pos hc] at h ⊢
    exact ⟨hc.1, head_cons hc.2, rfl⟩
  · rw [if_neg hc] at h
    simp at h
theorem cleanR_of (l : Bs) (hg : isGood (47 :: l) = true) : cleanR (47 :: l) = (mkB (render (clean (47 :: l))), 0) := by
  unfold cleanR
  rw [if_pos ⟨hg, rfl⟩]
theorem cleanR_bad (l : Bs) (h : ¬ (cleanR l).2 = 0) : cleanR l = (mkB [], 40) := by
  unfold cleanR at h ⊢
  split
  · rename_i hc; rw [if_pos hc] at h; exact absurd rfl h
  · rfl
theorem cleanR_render (ns : List Bs) (hn : ∀ s ∈ ns, nm s) (hg : isGood (render ns) = true) : cleanR (render ns) = (mkB (render ns), 0) := by
  obtain ⟨r, hr⟩ := render_head ns
  have := cleanR_of r (by rw [← hr]; exact hg)
  rw [← hr, clean_render ns hn] at this
  exact this

theorem lawclean_eq (p : ByteArray) (k : Nat) (hk : p.size + 5 < k) (hp : p.size ≤ 900000) : messuagelaw04_clean.f k p = some (decide ((cleanR p.data.toList).2 = 0) && (cleanR p.data.toList).1.data.toList == p.data.toList) := by
  unfold messuagelaw04_clean.f
  rw [rclean_eq p k hk hp]
  simp only [Option.bind_some]
  by_cases h : (cleanR p.data.toList).2 = 0
  · rw [if_pos h, decide_eq_true h, tl, tl]; rfl
  · rw [if_neg h, decide_eq_false h]; rfl
theorem form_of (p : ByteArray) (h : (decide ((cleanR p.data.toList).2 = 0) && (cleanR p.data.toList).1.data.toList == p.data.toList) = true) : ∃ ns, (∀ s ∈ ns, nm s) ∧ p.data.toList = render ns := by
  rw [Bool.and_eq_true, decide_eq_true_iff, beq_iff_eq] at h
  obtain ⟨_, _, hc⟩ := cleanR_ok _ h.1
  rw [hc, mkB_data] at h
  exact ⟨clean p.data.toList, clean_nm _, h.2.symm⟩
theorem snoc_of {ns : List Bs} (h : ns ≠ []) : ∃ ms b, ns = ms ++ [b] := ⟨ns.dropLast, ns.getLast h, (List.dropLast_concat_getLast h).symm⟩
theorem child_form {a b : List Bs} (ha : ∀ s ∈ a, nm s) (hb : ∀ s ∈ b, nm s) (h : child (render a) (render b) = true) : ∃ x, a = b ++ [x] := by
  unfold child at h
  simp only [Bool.and_eq_true, Bool.not_eq_true', beq_eq_false_iff_ne, beq_iff_eq] at h
  obtain ⟨⟨h1, _⟩, h3⟩ := h
  have hn : a ≠ [] := fun e => h1 (by rw [e]; rfl)
  obtain ⟨ms, x, rfl⟩ := snoc_of hn
  rw [up_render ms x (ha x (by simp))] at h3
  exact ⟨x, by rw [render_inj (fun s hs => ha s (by simp [hs])) hb h3]⟩

theorem PathBelow : messuagelaw04_PathBelow.Pure := by
  intro a b c _ _ _
  refine ⟨20000, ?_⟩
  unfold messuagelaw04_PathBelow.f
  have out : messuagelaw04_PathBelow.j0 20000 a b c true = some true := by simp only [messuagelaw04_PathBelow.j0, if_true]
  by_cases ha : (a.size : Int) > 256
  · rw [if_pos ha, out]
  rw [if_neg ha]
  by_cases hb : (b.size : Int) > 256
  · rw [if_pos hb, out]
  rw [if_neg hb]
  by_cases hc : (c.size : Int) > 256
  · rw [if_pos hc, out]
  rw [if_neg hc, lawclean_eq a 20000 (by omega) (by omega), lawclean_eq b 20000 (by omega) (by omega), lawclean_eq c 20000 (by omega) (by omega)]
  simp only [Option.bind_some]
  generalize qa : (decide ((cleanR a.data.toList).2 = 0) && (cleanR a.data.toList).1.data.toList == a.data.toList) = ta
  generalize qb : (decide ((cleanR b.data.toList).2 = 0) && (cleanR b.data.toList).1.data.toList == b.data.toList) = tb
  generalize qc : (decide ((cleanR c.data.toList).2 = 0) && (cleanR c.data.toList).1.data.toList == c.data.toList) = tc
  cases ta with
  | false => simp [out]
  | true =>
  cases tb with
  | false => simp [out]
  | true =>
  cases tc with
  | false => simp [out]
  | true =>
  obtain ⟨na, hna, ea⟩ := form_of a qa
  obtain ⟨nb, hnb, eb⟩ := form_of b qb
  obtain ⟨nc, hnc, ec⟩ := form_of c qc
  clear qa qb qc
  simp only [if_true, Bool.not_true, messuagelaw04_PathBelow.j0, Bool.false_eq_true, if_false]
  have two : messuagelaw04_PathBelow.j2 19998 a false = some true := by
    simp only [messuagelaw04_PathBelow.j2, Bool.false_eq_true, if_false]
    have h1 : path_Under.f a (⟨#[47]⟩ : ByteArray) = some true := by
      rw [under_eq _ _ (by decide), ea]
      obtain ⟨t, ht⟩ := render_head na
      rw [ht]
      rfl
    have h2 : path_Under.f a a = some true := by
      rw [under_eq _ _ (by omega), ea, (under_render hna hna).2 ⟨[], by simp⟩]
    have h3 : path_Child.f 19997 a a = some false := by
      rw [child_eq _ _ 19997 (by omega) (by omega), ea]
      congr 1
      rw [Bool.eq_false_iff]
      intro e
      obtain ⟨x, hx⟩ := child_form hna hna e
      have := congrArg List.length hx
      simp at this
    rw [h1, h2, h3, alive_eq 19997 (by omega)]
    rfl
  have one : messuagelaw04_PathBelow.j1 19999 a b false = some true := by
    simp only [messuagelaw04_PathBelow.j1, Bool.false_eq_true, if_false]
    rw [under_eq a b (by omega), under_eq b a (by omega)]
    simp only [Option.bind_some]
    by_cases h1 : under a.data.toList b.data.toList = true
    · rw [if_pos h1]
      by_cases h2 : under b.data.toList a.data.toList = true
      · rw [if_pos h2]
        rw [ea, eb] at h1 h2
        obtain ⟨u, hu⟩ := (under_render hna hnb).1 h1
        obtain ⟨v, hv⟩ := (under_render hnb hna).1 h2
        have e : na = nb := by
          have l1 := congrArg List.length hu
          have l2 := congrArg List.length hv
          simp at l1 l2
          have : u = [] := List.length_eq_zero_iff.1 (by omega)
          rw [hu, this]; simp
        have e2 : (a.toList != b.toList) = false := by rw [tl, tl, ea, eb, e]; simp
        rw [e2, two]
      · rw [if_neg h2, two]
    · rw [if_neg h1, two]
  have chi : ((path_Child.f 19999 a b).bind fun t => (if t = true then ((path_Under.f a b).bind fun t2 => (messuagelaw04_PathBelow.j1 19999 a b (!t2))) else (messuagelaw04_PathBelow.j1 19999 a b false))) = some true := by
    rw [child_eq a b 19999 (by omega) (by omega), under_eq a b (by omega)]
    simp only [Option.bind_some]
    by_cases h1 : child a.data.toList b.data.toList = true
    · rw [if_pos h1]
      rw [ea, eb] at h1
      obtain ⟨x, hx⟩ := child_form hna hnb h1
      rw [ea, eb, (under_render hna hnb).2 ⟨[x], hx⟩]
      exact one
    · rw [if_neg h1]; exact one
  rw [under_eq b c (by omega), under_eq a c (by omega)]
  rw [show path_Under.f a b = some (under a.data.toList b.data.toList) from under_eq a b (by omega)] at chi ⊢
  simp only [Option.bind_some] at chi ⊢
  by_cases h1 : under a.data.toList b.data.toList = true
  · rw [if_pos h1]
    by_cases h2 : under b.data.toList c.data.toList = true
    · rw [if_pos h2]
      have h3 : under a.data.toList c.data.toList = true := by
        rw [ea, eb] at h1
        rw [eb, ec] at h2
        obtain ⟨u, hu⟩ := (under_render hna hnb).1 h1
        obtain ⟨v, hv⟩ := (under_render hnb hnc).1 h2
        rw [ea, ec]
        exact (under_render hna hnc).2 ⟨v ++ u, by rw [hu, hv]; simp⟩
      rw [if_pos h3]
      exact chi
    · rw [if_neg h2]; exact chi
  · rw [if_neg h1]; exact chi

end Go.Proofs.YtbkhkdadipigfaaDoor.Pure
