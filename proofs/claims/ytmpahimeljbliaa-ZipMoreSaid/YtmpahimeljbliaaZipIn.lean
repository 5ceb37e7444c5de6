/- What is found in any bytes lies in them. No condition but that the bytes are bytes. -/
import Derived.Test.YtmpahimeljbliaaZipMade
namespace Go.Proofs.Ytmpahimeljbliaa.ZipPure

theorem U_nonneg (l : List Int) (hl : Bytes l) (a n : Nat) : 0 ≤ U l a n :=
  (leVal_bound _ (fun x hx => hl x (List.mem_of_mem_drop (List.mem_of_mem_take hx)))).1
theorem num_nonneg (b : List Int) (hb : Bytes b) (a n : Nat) : 0 ≤ numAt b a n := by
  unfold numAt
  split
  · exact U_nonneg b hb a n
  · exact Int.le_refl 0
theorem num_lt (b : List Int) (hb : Bytes b) (a n : Nat) : numAt b a n < 256 ^ n := by
  unfold numAt
  split
  · rename_i h
    exact (U_bound b hb a n h).2
  · exact Int.pow_pos (by decide)
theorem list_ents (b : List Int) : ∀ (k a left : Nat) (l : List Ent), listFrom b k a left = some l → ∀ x ∈ l, ∃ q, x = entAt b q
  | 0, a, left, l, h => by
    rw [listFrom] at h
    split at h
    · cases h
      intro x hx
      cases hx
    · cases h
  | k + 1, a, left, l, h => by
    rw [listFrom] at h
    split at h
    · cases h
    split at h
    · cases h
    obtain ⟨r, hr, rfl⟩ := Option.map_eq_some_iff.1 h
    intro x hx
    rcases List.mem_cons.1 hx with rfl | hx
    · exact ⟨a, rfl⟩
    · exact list_ents b k _ _ r hr x hx
theorem end_le (b : List Int) : ∀ (k back e : Nat), endFrom b k back = some e → e + back ≤ b.length
  | 0, _, _, h => by cases h
  | k + 1, back, e, h => by
    rw [endFrom] at h
    split at h
    · split at h
      · cases h
        omega
      · have := end_le b k (back + 1) e h
        omega
    · cases h
theorem list_in (b : List Int) (l : List Ent) (central : Nat) (hb : Bytes b) (h : listOf b = some (l, central)) : central ≤ b.length ∧ ∀ x ∈ l, ∃ q, x = entAt b q := by
  unfold listOf at h
  split at h
  · cases h
  split at h
  · cases h
  · rename_i e he
    split at h
    · rename_i hc
      obtain ⟨r, hr, hq⟩ := Option.map_eq_some_iff.1 h
      cases hq
      have := end_le b _ _ e he
      have h1 := U_nonneg b hb (e + 12) 4
      have h2 := U_nonneg b hb (e + 16) 4
      exact ⟨by omega, list_ents b _ _ _ _ hr⟩
    · cases h
theorem place_in (b : List Int) (x : Ent) (central : Nat) (at_ size : Int) (h : placeOf b x central = ((at_, size), 0)) (h1 : 0 ≤ x.at_) :
    x.method = 0 ∧ x.size = size ∧ x.at_ < at_ ∧ at_ % 256 = 0 ∧ at_ + size ≤ central := by
  unfold placeOf at h
  simp only [] at h
  split at h
  · simp at h
  split at h
  · simp at h
  split at h
  · simp at h
  split at h
  · simp at h
  split at h
  · simp at h
  · rename_i c1 c2 c3 c4 c5
    simp only [Prod.mk.injEq, and_true] at h
    refine ⟨Decidable.not_not.1 c1, h.2, ?_, ?_, ?_⟩ <;> omega
/-- P7.4: what is found lies in the bytes, at a page's beginning, as the list's first entry of that name says. -/
theorem found_in (b name : List Int) (hb : Bytes b) (at_ size : Int) (h : findOf b name = ((at_, size), 0)) :
    ∃ l central x, listOf b = some (l, central) ∧ firstNamed name l = some x ∧ x.method = 0 ∧ x.size = size ∧ x.at_ < at_ ∧ 0 ≤ x.at_ ∧ 0 ≤ size ∧ at_ % 256 = 0 ∧ at_ + size ≤ b.length := by
  unfold findOf at h
  cases hl : listOf b with
  | none => rw [hl] at h; simp at h
  | some q =>
    obtain ⟨l, central⟩ := q
    rw [hl] at h
    simp only [] at h
    cases hn : firstNamed name l with
    | none => rw [hn] at h; simp at h
    | some x =>
      rw [hn] at h
      simp only [] at h
      obtain ⟨hc, he⟩ := list_in b l central hb hl
      obtain ⟨q, hq⟩ := he x (first_mem name l x hn).1
      have h0 : 0 ≤ x.size := by rw [hq]; exact num_nonneg b hb _ _
      have h1 : 0 ≤ x.at_ := by rw [hq]; exact num_nonneg b hb _ _
      obtain ⟨p1, p2, p3, p4, p5⟩ := place_in b x central at_ size h h1
      exact ⟨l, central, x, rfl, hn, p1, p2, p3, h1, by omega, p4, by omega⟩
theorem place_errs (b : List Int) (x : Ent) (central : Nat) : (placeOf b x central).2 = 0 ∨ (placeOf b x central).1 = (0, 0) := by
  unfold placeOf
  simp only []
  split
  · exact .inr rfl
  split
  · exact .inr rfl
  split
  · exact .inr rfl
  split
  · exact .inr rfl
  split
  · exact .inr rfl
  · exact .inl rfl
/-- With an error there is no place. -/
theorem found_none (b name : List Int) (h : (findOf b name).2 ≠ 0) : (findOf b name).1 = (0, 0) := by
  unfold findOf at *
  cases hl : listOf b with
  | none => rfl
  | some q =>
    rw [hl] at h
    simp only [] at *
    cases hn : firstNamed name q.1 with
    | none => rfl
    | some x =>
      rw [hn] at h
      simp only [] at *
      exact (place_errs b x q.2).resolve_left h
end Go.Proofs.Ytmpahimeljbliaa.ZipPure
