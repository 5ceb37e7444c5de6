/- An archive's list, as a plain function; the list of an archive that was made. No condition but those of each lemma. -/
import Derived.Test.YtmpahimeljbliaaZipPure
namespace Go.Proofs.Ytmpahimeljbliaa.ZipPure

/-- The number of so many bytes at a place; 0, if they aren't there. -/
def numAt (b : List Int) (a n : Nat) : Int := if a + n ≤ b.length then U b a n else 0
theorem numAt_in (b : List Int) (a n : Nat) (h : a + n ≤ b.length) : numAt b a n = U b a n := if_pos h
/-- An entry: its name, its method, its size, how much it takes, where it stands. -/
structure Ent where
  name : List Int
  method : Int
  size : Int
  stored : Int
  at_ : Int
def endMarks (b : List Int) (a : Nat) : Prop := U b a 4 = 101010256 ∧ U b (a + 20) 2 = (b.length - a - 22 : Nat)
instance (b : List Int) (a : Nat) : Decidable (endMarks b a) := by unfold endMarks; infer_instance
/-- From so far back on: the last place at which the last part may stand. -/
def endFrom (b : List Int) : Nat → Nat → Option Nat
  | 0, _ => none
  | k + 1, back => if back ≤ b.length then (if endMarks b (b.length - back) then some (b.length - back) else endFrom b k (back + 1)) else none
def endAt (b : List Int) : Option Nat := endFrom b 65536 22
def entAt (b : List Int) (a : Nat) : Ent := ⟨(b.drop (a + 46)).take (numAt b (a + 28) 2).toNat, numAt b (a + 10) 2, numAt b (a + 24) 4, numAt b (a + 20) 4, numAt b (a + 42) 4⟩
/-- How long the list's row at a place is. -/
def longAt (b : List Int) (a : Nat) : Nat := (46 + numAt b (a + 28) 2 + numAt b (a + 30) 2 + numAt b (a + 32) 2).toNat
def listFrom (b : List Int) : Nat → Nat → Nat → Option (List Ent)
  | 0, _, left => if left = 0 then some [] else none
  | k + 1, a, left =>
    if left < 46 ∨ numAt b a 4 ≠ 33639248 then none
    else if longAt b a > left then none
    else (listFrom b k (a + longAt b a) (left - longAt b a)).map fun r => entAt b a :: r
/-- The entries, and where the list begins. -/
def listOf (b : List Int) : Option (List Ent × Nat) :=
  if b.length > 262144 then none
  else match endAt b with
    | none => none
    | some e =>
      if U b (e + 4) 2 = 0 ∧ U b (e + 6) 2 = 0 ∧ U b (e + 8) 2 = U b (e + 10) 2 ∧ U b (e + 16) 4 + U b (e + 12) 4 ≤ e then
        (listFrom b (U b (e + 10) 2).toNat (U b (e + 16) 4).toNat (U b (e + 12) 4).toNat).map fun r => (r, (U b (e + 16) 4).toNat)
      else none

/-- The entries of files that are laid down from a place on. -/
def entsFrom : List F → Nat → List Ent
  | [], _ => []
  | f :: r, a => ⟨f.1, 0, f.2.length, f.2.length, a⟩ :: entsFrom r (a + (30 + f.1.length + padOf a f.1.length + f.2.length))
theorem pow2 : (256 : Int) ^ 2 = 65536 := by decide
theorem pow4 : (256 : Int) ^ 4 = 4294967296 := by decide
theorem central_ok (f : F) (a : Nat) (h1 : f.1.length ≤ 256) (h2 : f.2.length ≤ 262144) (ha : a ≤ 262144) : rowOk (centralRow f a) := by
  simp [rowOk, centralRow, pow2, pow4]
  omega
set_option maxHeartbeats 1000000 in
/-- One row of the list, wherever it stands. -/
theorem row_at (p : List Int) (f : F) (a : Nat) (s : List Int) (h1 : f.1.length ≤ 256) (h2 : f.2.length ≤ 262144) (ha : a ≤ 262144) :
    numAt (p ++ (centralOf f a ++ s)) p.length 4 = 33639248 ∧ longAt (p ++ (centralOf f a ++ s)) p.length = 46 + f.1.length ∧ entAt (p ++ (centralOf f a ++ s)) p.length = ⟨f.1, 0, f.2.length, f.2.length, a⟩ := by
  have ho := central_ok f a h1 h2 ha
  have hl := rowOf_len (centralRow f a)
  have hl2 : rowLen (centralRow f a) = 46 := by simp [centralRow, rowLen]
  have e : p ++ (centralOf f a ++ s) = p ++ (rowOf (centralRow f a) ++ (f.1 ++ s)) := by unfold centralOf; rw [List.append_assoc]
  rw [e]
  have num : ∀ (i : Nat) (n : Int) (k o : Nat), (centralRow f a)[i]? = some (n, k) → rowAt (centralRow f a) i = o → o + k ≤ 46 → numAt (p ++ (rowOf (centralRow f a) ++ (f.1 ++ s))) (p.length + o) k = n := by
    intro i n k o h hr hk
    rw [numAt_in _ _ _ (by rw [List.length_append, List.length_append, hl, hl2]; omega)]
    exact U_row_at p _ i n k _ _ ho h (by rw [hr])
  have q0 := num 0 33639248 4 0 (by simp [centralRow]) (by simp [centralRow, rowAt]) (by omega)
  have q10 := num 4 0 2 10 (by simp [centralRow]) (by simp [centralRow, rowAt]) (by omega)
  have q20 := num 8 f.2.length 4 20 (by simp [centralRow]) (by simp [centralRow, rowAt]) (by omega)
  have q24 := num 9 f.2.length 4 24 (by simp [centralRow]) (by simp [centralRow, rowAt]) (by omega)
  have q28 := num 10 f.1.length 2 28 (by simp [centralRow]) (by simp [centralRow, rowAt]) (by omega)
  have q30 := num 11 0 2 30 (by simp [centralRow]) (by simp [centralRow, rowAt]) (by omega)
  have q32 := num 12 0 2 32 (by simp [centralRow]) (by simp [centralRow, rowAt]) (by omega)
  have q42 := num 16 a 4 42 (by simp [centralRow]) (by simp [centralRow, rowAt]) (by omega)
  refine ⟨q0, ?_, ?_⟩
  · unfold longAt
    rw [q28, q30, q32]
    omega
  · unfold entAt
    rw [q10, q20, q24, q28, q42]
    congr 1
    rw [List.drop_append, List.drop_of_length_le (by omega), List.nil_append, Nat.add_sub_cancel_left, List.drop_append, List.drop_of_length_le (by rw [hl, hl2]; exact Nat.le_refl _), hl, hl2, Nat.sub_self, List.drop_zero, List.nil_append, Int.toNat_natCast]
    simp
/-- What the parts of the files come to. -/
theorem parts_of : ∀ (l : List F) (b c B C : List Int), partsOf l b c = ((B, C), 0) →
    ∃ B1 C1, B = b ++ B1 ∧ C = c ++ C1 ∧ (l ≠ [] → B.length + C.length + 22 ≤ 262144) ∧ (∀ f ∈ l, 1 ≤ f.1.length ∧ f.1.length ≤ 256 ∧ f.2.length ≤ 262144) ∧
      (∀ p s : List Int, listFrom (p ++ (C1 ++ s)) l.length p.length C1.length = some (entsFrom l b.length)) := by
  intro l
  induction l with
  | nil =>
    intro b c B C h
    simp only [partsOf, Prod.mk.injEq] at h
    obtain ⟨⟨rfl, rfl⟩, -⟩ := h
    exact ⟨[], [], by simp, by simp, fun h => absurd rfl h, fun f hf => absurd hf (by simp), fun p s => by simp [listFrom, entsFrom]⟩
  | cons f r ih =>
    intro b c B C h
    rw [partsOf] at h
    by_cases c1 : f.1.length = 0 ∨ f.1.length > 256
    · rw [if_pos c1] at h
      simp at h
    rw [if_neg c1] at h
    by_cases c2 : f.2.length > 262144
    · rw [if_pos c2] at h
      simp at h
    rw [if_neg c2] at h
    by_cases c3 : (b ++ localOf f (padOf b.length f.1.length)).length + (c ++ centralOf f b.length).length + 22 > 262144
    · rw [if_pos c3] at h
      simp at h
    rw [if_neg c3] at h
    obtain ⟨B1, C1, hB, hC, hs, hf, hls⟩ := ih _ _ _ _ h
    have hsz : B.length + C.length + 22 ≤ 262144 := by
      cases r with
      | nil =>
        simp only [partsOf, Prod.mk.injEq] at h
        rw [← h.1.1, ← h.1.2]
        omega
      | cons g r => exact hs (by simp)
    refine ⟨localOf f (padOf b.length f.1.length) ++ B1, centralOf f b.length ++ C1, by rw [hB, List.append_assoc], by rw [hC, List.append_assoc], fun _ => hsz, ?_, ?_⟩
    · intro g hg
      rcases List.mem_cons.1 hg with rfl | h'
      · omega
      · exact hf g h'
    · intro p s
      have hb : b.length ≤ 262144 := by
        rw [hB, List.length_append, List.length_append] at hsz
        omega
      have hrow := row_at p f b.length (C1 ++ s) (by omega) (by omega) hb
      have hcl := central_len f b.length
      rw [List.append_assoc] at *
      rw [List.length_cons, listFrom, hrow.1, hrow.2.1, hrow.2.2, List.length_append, hcl, if_neg (by omega), if_neg (by omega)]
      have := hls (p ++ centralOf f b.length) s
      rw [List.append_assoc, List.length_append, hcl, List.length_append, local_len] at this
      rw [show 46 + f.1.length + C1.length - (46 + f.1.length) = C1.length by omega, this]
      rfl
end Go.Proofs.Ytmpahimeljbliaa.ZipPure
