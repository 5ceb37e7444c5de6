/- What is found in an archive that was made; with one file more at its end. No condition. -/
import Derived.Test.YtmpahimeljbliaaZipFind
namespace Go.Proofs.Ytmpahimeljbliaa.ZipPure

/-- The place of an entry that was laid down. -/
def madePlace (x : Ent) : (Int × Int) × Int := ((((x.at_.toNat + 30 + x.name.length + padOf x.at_.toNat x.name.length : Nat) : Int), x.size), 0)
theorem first_mem (name : List Int) : ∀ (l : List Ent) (x : Ent), firstNamed name l = some x → x ∈ l ∧ x.name = name := by
  intro l
  induction l with
  | nil => intro x h; cases h
  | cons y r ih =>
    intro x h
    rw [firstNamed] at h
    by_cases c : y.name = name
    · rw [if_pos c] at h
      cases h
      exact ⟨List.mem_cons_self .., c⟩
    · rw [if_neg c] at h
      have := ih x h
      exact ⟨List.mem_cons_of_mem _ this.1, this.2⟩
theorem ents_len : ∀ (l : List F) (a : Nat), (entsFrom l a).length = l.length
  | [], _ => rfl
  | f :: r, a => by rw [entsFrom, List.length_cons, List.length_cons, ents_len r]
theorem ents_at : ∀ (l : List F) (a i : Nat) (x : Ent), (entsFrom l a)[i]? = some x → ∃ f, l[i]? = some f ∧ x.name = f.1 ∧ x.size = f.2.length
  | [], a, i, x, h => by simp [entsFrom] at h
  | f :: r, a, 0, x, h => by
    rw [entsFrom] at h
    simp at h
    subst h
    exact ⟨f, rfl, rfl, rfl⟩
  | f :: r, a, i + 1, x, h => by
    rw [entsFrom] at h
    have := ents_at r _ i x (by simpa using h)
    simpa using this
/-- Each entry's place in what was made, and its bytes there. -/
theorem place_of (l : List F) (a B C : List Int) (hp : partsOf l [] [] = ((B, C), 0)) (ha : a = B ++ (C ++ rowOf (endRow l.length C.length B.length))) (i : Nat) (f : F) (hi : l[i]? = some f) :
    ∃ x, (entsFrom l 0)[i]? = some x ∧ placeOf a x B.length = madePlace x ∧ x.name = f.1 ∧ ∃ at_ : Nat, madePlace x = (((at_ : Int), (f.2.length : Int)), 0) ∧ at_ % 256 = 0 ∧ at_ + f.2.length ≤ a.length ∧ (a.drop at_).take f.2.length = f.2 := by
  obtain ⟨B1, C1, hB, hC, hs, hf, -⟩ := parts_of l [] [] B C hp
  have hfo := hf f (List.mem_of_getElem? hi)
  obtain ⟨P, S, hx, hBP⟩ := local_parts l [] [] B C hp i f hi
  refine ⟨_, hx, ?_, rfl, ?_⟩
  · have := (place_made P S (C ++ rowOf (endRow l.length C.length B.length)) f hfo.2.1 hfo.2.2).1
    rw [← hBP, ← ha] at this
    rw [this]
    simp [madePlace]
  · have := (place_made P S (C ++ rowOf (endRow l.length C.length B.length)) f hfo.2.1 hfo.2.2).2
    rw [← hBP, ← ha] at this
    refine ⟨P.length + 30 + f.1.length + padOf P.length f.1.length, ?_, this.1, ?_, this.2.2⟩
    · simp [madePlace]
    · have h2 := this.2.1
      rw [ha, List.length_append]
      omega
theorem find_made (l : List F) (a name : List Int) (h : makeOf l = (a, 0)) :
    findOf a name = match firstNamed name (entsFrom l 0) with
      | none => ((0, 0), 71)
      | some x => madePlace x := by
  obtain ⟨B, C, hp, ha, hl, -⟩ := make_lists l a h
  unfold findOf
  rw [hl]
  simp only []
  cases hn : firstNamed name (entsFrom l 0) with
  | none => rfl
  | some x =>
    obtain ⟨hm, -⟩ := first_mem name _ x hn
    obtain ⟨i, hi, hx⟩ := List.getElem_of_mem hm
    rw [ents_len] at hi
    obtain ⟨y, hy, hpl, -⟩ := place_of l a B C hp ha i l[i] (by simp)
    have : x = y := by
      rw [List.getElem?_eq_getElem (by rw [ents_len]; exact hi)] at hy
      have := Option.some.inj hy
      rw [← this, ← hx]
    rw [this]
    exact hpl
/-- The first file of a name is what is found. -/
theorem first_at (name : List Int) : ∀ (l : List F) (a k : Nat) (f : F), l[k]? = some f → f.1 = name → (∀ j g, j < k → l[j]? = some g → g.1 ≠ name) → firstNamed name (entsFrom l a) = (entsFrom l a)[k]?
  | [], a, k, f, h, _, _ => by simp at h
  | g :: r, a, 0, f, h, hn, _ => by
    obtain rfl : g = f := by simpa using h
    rw [entsFrom, firstNamed, if_pos hn]
    rfl
  | g :: r, a, k + 1, f, h, hn, hb => by
    have hg : g.1 ≠ name := hb 0 g (by omega) rfl
    rw [entsFrom, firstNamed, if_neg hg, first_at name r _ k f (by simpa using h) hn (fun j q hj hq => hb (j + 1) q (by omega) (by simpa using hq))]
    simp
/-- P7.4: each file of what was made is found, at a page's beginning, with the bytes of the first one of its name. -/
theorem made_back (l : List F) (a : List Int) (h : makeOf l = (a, 0)) (k : Nat) (f : F) (hk : l[k]? = some f) (hb : ∀ j g, j < k → l[j]? = some g → g.1 ≠ f.1) :
    ∃ at_ : Nat, findOf a f.1 = (((at_ : Int), (f.2.length : Int)), 0) ∧ at_ % 256 = 0 ∧ at_ + f.2.length ≤ a.length ∧ (a.drop at_).take f.2.length = f.2 := by
  obtain ⟨B, C, hp, ha, hl, -⟩ := make_lists l a h
  obtain ⟨x, hx, -, -, at_, h1, h2, h3, h4⟩ := place_of l a B C hp ha k f hk
  refine ⟨at_, ?_, h2, h3, h4⟩
  rw [find_made l a f.1 h, first_at f.1 l 0 k f hk rfl hb, hx]
  exact h1

/-! One file more -/
theorem parts_more : ∀ (l : List F) (x : F) (b c : List Int), (partsOf l b c).2 ≠ 0 → (partsOf (l ++ [x]) b c).2 ≠ 0
  | [], x, b, c, h => absurd rfl h
  | f :: r, x, b, c, h => by
    rw [List.cons_append, partsOf]
    rw [partsOf] at h
    by_cases c1 : f.1.length = 0 ∨ f.1.length > 256
    · rw [if_pos c1]
      decide
    rw [if_neg c1] at h ⊢
    by_cases c2 : f.2.length > 262144
    · rw [if_pos c2]
      decide
    rw [if_neg c2] at h ⊢
    by_cases c3 : (b ++ localOf f (padOf b.length f.1.length)).length + (c ++ centralOf f b.length).length + 22 > 262144
    · rw [if_pos c3]
      decide
    rw [if_neg c3] at h ⊢
    exact parts_more r x _ _ h
theorem make_more (l : List F) (x : F) (h : (makeOf l).2 ≠ 0) : (makeOf (l ++ [x])).2 ≠ 0 := by
  unfold makeOf at *
  by_cases c : l.length > 256
  · rw [if_pos (by rw [List.length_append, List.length_singleton]; omega)]
    decide
  rw [if_neg c] at h
  by_cases c2 : (l ++ [x]).length > 256
  · rw [if_pos c2]
    decide
  rw [if_neg c2]
  have hp : (partsOf l [] []).2 ≠ 0 := by
    intro e
    simp [e] at h
  have := parts_more l x [] [] hp
  simp only [ne_eq, this, not_false_eq_true, if_true]
theorem ents_more : ∀ (l : List F) (x : F) (a : Nat), ∃ e : Ent, entsFrom (l ++ [x]) a = entsFrom l a ++ [e] ∧ e.name = x.1
  | [], x, a => ⟨_, rfl, rfl⟩
  | f :: r, x, a => by
    obtain ⟨e, h1, h2⟩ := ents_more r x (a + (30 + f.1.length + padOf a f.1.length + f.2.length))
    exact ⟨e, by rw [List.cons_append, entsFrom, entsFrom, h1, List.cons_append], h2⟩
theorem first_more (name : List Int) (e : Ent) : ∀ l : List Ent, firstNamed name (l ++ [e]) = match firstNamed name l with
    | some x => some x
    | none => if e.name = name then some e else none
  | [] => by simp [firstNamed]
  | y :: r => by
    rw [List.cons_append, firstNamed, firstNamed]
    by_cases c : y.name = name
    · rw [if_pos c, if_pos c]
    · rw [if_neg c, if_neg c]
      exact first_more name e r
/-- P7.3, P7.4: with one file more all is found where it was; else just the new one's name is found. -/
theorem made_more (l : List F) (x : F) (name a b : List Int) (ha : makeOf l = (a, 0)) (hb : makeOf (l ++ [x]) = (b, 0)) :
    ((findOf a name).2 = 0 → findOf b name = findOf a name) ∧ ((findOf a name).2 ≠ 0 → (findOf a name).2 = 71 ∧ ((findOf b name).2 = 0 ↔ x.1 = name)) := by
  obtain ⟨e, he, hn⟩ := ents_more l x 0
  rw [find_made l a name ha, find_made (l ++ [x]) b name hb, he, first_more]
  cases firstNamed name (entsFrom l 0) with
  | some y => exact ⟨fun _ => rfl, fun h => absurd rfl h⟩
  | none =>
    refine ⟨fun h => absurd h (by decide), fun _ => ⟨rfl, ?_⟩⟩
    rw [hn]
    by_cases c : x.1 = name
    · rw [if_pos c]
      exact ⟨fun _ => c, fun _ => rfl⟩
    · rw [if_neg c]
      exact ⟨fun h => absurd h (by decide), fun h => absurd h c⟩
end Go.Proofs.Ytmpahimeljbliaa.ZipPure
