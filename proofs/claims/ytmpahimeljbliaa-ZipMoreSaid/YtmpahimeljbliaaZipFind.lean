/- An entry's place, as a plain function; where the files of an archive that was made are found. No condition but those of each lemma. -/
import Derived.Test.YtmpahimeljbliaaZipList
namespace Go.Proofs.Ytmpahimeljbliaa.ZipPure

/-- Where an entry's bytes stand, how many they are, or the error. -/
def placeOf (b : List Int) (x : Ent) (central : Nat) : (Int × Int) × Int :=
  let a := x.at_.toNat
  if x.method ≠ 0 then ((0, 0), 72)
  else if ¬a + 30 ≤ central ∨ numAt b a 4 ≠ 67324752 then ((0, 0), 70)
  else
    let long := (numAt b (a + 26) 2).toNat
    let extra := (numAt b (a + 28) 2).toNat
    if ¬a + 30 + long ≤ b.length ∨ (b.drop (a + 30)).take long ≠ x.name ∨ numAt b (a + 8) 2 ≠ 0 ∨ x.stored ≠ x.size then ((0, 0), 70)
    else if ¬((a + 30 + long + extra : Nat) : Int) + x.size ≤ central then ((0, 0), 70)
    else if (a + 30 + long + extra) % 256 ≠ 0 then ((0, 0), 73)
    else ((((a + 30 + long + extra : Nat) : Int), x.size), 0)
/-- The first entry of a name. -/
def firstNamed (name : List Int) : List Ent → Option Ent
  | [] => none
  | x :: r => if x.name = name then some x else firstNamed name r
def findOf (b name : List Int) : (Int × Int) × Int :=
  match listOf b with
  | none => ((0, 0), 70)
  | some (l, central) =>
    match firstNamed name l with
    | none => ((0, 0), 71)
    | some x => placeOf b x central

theorem end_ok (many clen blen : Nat) (h1 : many ≤ 256) (h2 : clen ≤ 262144) (h3 : blen ≤ 262144) : rowOk (endRow many clen blen) := by
  simp [rowOk, endRow, pow2, pow4]
  omega
/-- What is made lies in three parts. -/
theorem make_parts (l : List F) (a : List Int) (h : makeOf l = (a, 0)) : ∃ B C, partsOf l [] [] = ((B, C), 0) ∧ l.length ≤ 256 ∧ a = B ++ (C ++ rowOf (endRow l.length C.length B.length)) := by
  unfold makeOf at h
  by_cases c : l.length > 256
  · rw [if_pos c] at h
    simp at h
  rw [if_neg c] at h
  generalize hp : partsOf l [] [] = r at h
  obtain ⟨⟨B, C⟩, e⟩ := r
  by_cases ce : e = 0
  · subst ce
    simp at h
    exact ⟨B, C, rfl, by omega, h.symm⟩
  · simp [ce] at h
set_option maxHeartbeats 1000000 in
/-- What is made lists what was laid down. -/
theorem make_lists (l : List F) (a : List Int) (h : makeOf l = (a, 0)) : ∃ B C, partsOf l [] [] = ((B, C), 0) ∧ a = B ++ (C ++ rowOf (endRow l.length C.length B.length)) ∧ listOf a = some (entsFrom l 0, B.length) ∧ a.length ≤ 262144 := by
  obtain ⟨B, C, hp, hl, rfl⟩ := make_parts l a h
  obtain ⟨B1, C1, hB, hC, hs, hf, hls⟩ := parts_of l [] [] B C hp
  rw [List.nil_append] at hB hC
  subst hB hC
  have hsz : B.length + C.length + 22 ≤ 262144 := by
    cases l with
    | nil =>
      simp only [partsOf, Prod.mk.injEq] at hp
      rw [← hp.1.1, ← hp.1.2]
      decide
    | cons f r => exact hs (by simp)
  have ho := end_ok l.length C.length B.length hl (by omega) (by omega)
  have hel : (rowOf (endRow l.length C.length B.length)).length = 22 := by rw [rowOf_len]; simp [endRow, rowLen]
  refine ⟨B, C, hp, rfl, ?_, by rw [List.length_append, List.length_append, hel]; omega⟩
  have hlen : (B ++ (C ++ rowOf (endRow l.length C.length B.length))).length = B.length + C.length + 22 := by rw [List.length_append, List.length_append, hel]; omega
  have num : ∀ (i : Nat) (n : Int) (k o : Nat), (endRow l.length C.length B.length)[i]? = some (n, k) → rowAt (endRow l.length C.length B.length) i = o → U (B ++ (C ++ rowOf (endRow l.length C.length B.length))) (B.length + C.length + o) k = n := by
    intro i n k o h1 h2
    have := U_row_at (B ++ C) (endRow l.length C.length B.length) i n k (B.length + C.length + o) [] ho h1 (by rw [List.length_append, h2])
    rw [List.append_nil, List.append_assoc] at this
    exact this
  have q0 := num 0 101010256 4 0 (by simp [endRow]) (by simp [endRow, rowAt])
  have q10 := num 3 l.length 2 10 (by simp [endRow]) (by simp [endRow, rowAt])
  have q8 := num 2 l.length 2 8 (by simp [endRow]) (by simp [endRow, rowAt])
  have q12 := num 4 C.length 4 12 (by simp [endRow]) (by simp [endRow, rowAt])
  have q16 := num 5 B.length 4 16 (by simp [endRow]) (by simp [endRow, rowAt])
  have q20 := num 6 0 2 20 (by simp [endRow]) (by simp [endRow, rowAt])
  -- the four bytes of the number 0, by halves
  have hz : ∀ o, (o = 4 ∨ o = 6) → U (B ++ (C ++ rowOf (endRow l.length C.length B.length))) (B.length + C.length + o) 2 = 0 := by
    intro o ho'
    have e : B ++ (C ++ rowOf (endRow l.length C.length B.length)) = (B ++ C) ++ ([80, 75, 5, 6, 0, 0, 0, 0] ++ rowOf [((l.length : Int), 2), ((l.length : Int), 2), ((C.length : Int), 4), ((B.length : Int), 4), (0, 2)]) := by
      rw [List.append_assoc]
      rfl
    rw [e, U_right _ _ _ _ (by rw [List.length_append]; omega), List.length_append, Nat.add_sub_cancel_left, U_left _ _ _ _ (by simp; omega)]
    rcases ho' with rfl | rfl <;> rfl
  have hend : endAt (B ++ (C ++ rowOf (endRow l.length C.length B.length))) = some (B.length + C.length) := by
    unfold endAt
    rw [show (65536 : Nat) = 65535 + 1 by rfl, endFrom, hlen, if_pos (by omega), show B.length + C.length + 22 - 22 = B.length + C.length by omega]
    have hm : endMarks (B ++ (C ++ rowOf (endRow l.length C.length B.length))) (B.length + C.length) := by
      unfold endMarks
      rw [hlen, q20]
      refine ⟨q0, ?_⟩
      omega
    rw [if_pos hm]
  unfold listOf
  rw [hlen, if_neg (by omega), hend]
  simp only []
  rw [q10, q12, q16, q8, hz 4 (.inl rfl), hz 6 (.inr rfl), if_pos (by omega)]
  have := hls B (rowOf (endRow l.length C.length B.length))
  simp only [Int.toNat_natCast]
  rw [this]
  rfl
/-- Where each file of those that were laid down stands. -/
theorem local_parts : ∀ (l : List F) (b c B C : List Int), partsOf l b c = ((B, C), 0) → ∀ (i : Nat) (f : F), l[i]? = some f →
    ∃ P S, (entsFrom l b.length)[i]? = some ⟨f.1, 0, f.2.length, f.2.length, P.length⟩ ∧ B = P ++ (localOf f (padOf P.length f.1.length) ++ S) := by
  intro l
  induction l with
  | nil => intro b c B C _ i f h; simp at h
  | cons g r ih =>
    intro b c B C h i f hi
    obtain ⟨B1, C1, hB, hC, hs, hf, hls⟩ := parts_of (g :: r) b c B C h
    rw [partsOf] at h
    by_cases c1 : g.1.length = 0 ∨ g.1.length > 256
    · rw [if_pos c1] at h
      simp at h
    rw [if_neg c1] at h
    by_cases c2 : g.2.length > 262144
    · rw [if_pos c2] at h
      simp at h
    rw [if_neg c2] at h
    by_cases c3 : (b ++ localOf g (padOf b.length g.1.length)).length + (c ++ centralOf g b.length).length + 22 > 262144
    · rw [if_pos c3] at h
      simp at h
    rw [if_neg c3] at h
    cases i with
    | zero =>
      obtain rfl : g = f := by simpa using hi
      obtain ⟨B2, C2, hB2, -⟩ := parts_of r _ _ B C h
      exact ⟨b, B2, rfl, by rw [hB2, List.append_assoc]⟩
    | succ i =>
      have := ih _ _ B C h i f (by simpa using hi)
      rw [List.length_append, local_len] at this
      obtain ⟨P, S, h1, h2⟩ := this
      exact ⟨P, S, by rw [entsFrom]; simpa using h1, h2⟩
theorem local_ok (f : F) (pad : Nat) (h1 : f.1.length ≤ 256) (h2 : f.2.length ≤ 262144) (hp : pad < 256) : rowOk (localRow f pad) := by
  simp [rowOk, localRow, pow2, pow4]
  omega
theorem pad_lt (a n : Nat) : padOf a n < 256 := by unfold padOf; omega
set_option maxHeartbeats 1000000 in
/-- A file that was laid down is found, at a page's beginning, with its bytes. -/
theorem place_made (P S T : List Int) (f : F) (h1 : f.1.length ≤ 256) (h2 : f.2.length ≤ 262144) :
    placeOf ((P ++ (localOf f (padOf P.length f.1.length) ++ S)) ++ T) ⟨f.1, 0, f.2.length, f.2.length, P.length⟩ (P ++ (localOf f (padOf P.length f.1.length) ++ S)).length = ((((P.length + 30 + f.1.length + padOf P.length f.1.length : Nat) : Int), (f.2.length : Int)), 0)
    ∧ (P.length + 30 + f.1.length + padOf P.length f.1.length) % 256 = 0
    ∧ P.length + 30 + f.1.length + padOf P.length f.1.length + f.2.length ≤ (P ++ (localOf f (padOf P.length f.1.length) ++ S)).length
    ∧ ((((P ++ (localOf f (padOf P.length f.1.length) ++ S)) ++ T).drop (P.length + 30 + f.1.length + padOf P.length f.1.length)).take f.2.length) = f.2 := by
  have hpl := pad_lt P.length f.1.length
  have hpr := pad_right P.length f.1.length
  generalize padOf P.length f.1.length = pad at *
  have ho := local_ok f pad h1 h2 hpl
  have hl : (rowOf (localRow f pad)).length = 30 := by rw [rowOf_len]; simp [localRow, rowLen]
  have hlen : (P ++ (localOf f pad ++ S)).length = P.length + (30 + f.1.length + pad + f.2.length) + S.length := by rw [List.length_append, List.length_append, local_len]; omega
  have e : (P ++ (localOf f pad ++ S)) ++ T = P ++ (rowOf (localRow f pad) ++ (f.1 ++ (List.replicate pad 0 ++ (f.2 ++ (S ++ T))))) := by
    unfold localOf
    simp only [List.append_assoc]
  have hlen2 : ((P ++ (localOf f pad ++ S)) ++ T).length = P.length + (30 + f.1.length + pad + f.2.length) + S.length + T.length := by rw [List.length_append, hlen]
  have num : ∀ (i : Nat) (n : Int) (k o : Nat), (localRow f pad)[i]? = some (n, k) → rowAt (localRow f pad) i = o → o + k ≤ 30 → numAt ((P ++ (localOf f pad ++ S)) ++ T) (P.length + o) k = n := by
    intro i n k o h hr hk
    rw [numAt_in _ _ _ (by rw [hlen2]; omega), e]
    exact U_row_at P _ i n k _ _ ho h (by rw [hr])
  have q0 := num 0 67324752 4 0 (by simp [localRow]) (by simp [localRow, rowAt]) (by omega)
  have q8 := num 3 0 2 8 (by simp [localRow]) (by simp [localRow, rowAt]) (by omega)
  have q26 := num 9 f.1.length 2 26 (by simp [localRow]) (by simp [localRow, rowAt]) (by omega)
  have q28 := num 10 pad 2 28 (by simp [localRow]) (by simp [localRow, rowAt]) (by omega)
  rw [Nat.add_zero] at q0
  have hname : (((P ++ (localOf f pad ++ S)) ++ T).drop (P.length + 30)).take f.1.length = f.1 := by
    rw [e, List.drop_append, List.drop_of_length_le (by omega), List.nil_append, Nat.add_sub_cancel_left, List.drop_append, List.drop_of_length_le (by rw [hl]; exact Nat.le_refl _), hl, Nat.sub_self, List.drop_zero, List.nil_append]
    simp
  refine ⟨?_, hpr, by rw [hlen]; omega, ?_⟩
  · unfold placeOf
    simp only [Int.toNat_natCast, ne_eq, not_true_eq_false, if_false]
    rw [q0, q26, q28, q8, hlen, hlen2]
    simp only [Int.toNat_natCast, hname, not_true_eq_false, or_false]
    rw [if_neg (by omega), if_neg (by omega), if_neg (by omega), if_neg (by omega)]
  · rw [e, List.drop_append, List.drop_of_length_le (by omega), List.nil_append, show P.length + 30 + f.1.length + pad - P.length = 30 + (f.1.length + pad) by omega, List.drop_append, List.drop_of_length_le (by rw [hl]; omega), List.nil_append, hl, Nat.add_sub_cancel_left, List.drop_append, List.drop_of_length_le (by omega), List.nil_append, Nat.add_sub_cancel_left, List.drop_append, List.drop_of_length_le (by rw [List.length_replicate]; exact Nat.le_refl _), List.nil_append, List.length_replicate, Nat.sub_self, List.drop_zero]
    simp
end Go.Proofs.Ytmpahimeljbliaa.ZipPure
