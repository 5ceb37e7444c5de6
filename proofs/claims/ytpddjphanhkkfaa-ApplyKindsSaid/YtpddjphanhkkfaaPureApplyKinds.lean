/-
  What each type of relocation does on each machine: the printed functions of the program and of the reference answer alike at every machine and type. No condition beyond the kinds of the two numbers.
-/
import Derived.Test.YtpddjphanhkkfaaPApplyKindsx2
import Derived.IntWalk
namespace Go.Proofs.Ytpddjphanhkkfaa.Pure
open Go.RowKit Go.Proofs.Ytpddjphanhkkfaa.PApplyKinds Go.Proofs.YtpddjphanhkkfaaW.PrintWords Go.Proofs.YtpddjphanhkkfaaW.PrintLast

/-- What the reference's table tells. -/
def tab (m t : Int) : Int :=
  if m = 62 ∧ t = 0 then 0 else if m = 183 ∧ t = 0 then 0 else if m = 62 ∧ t = 1 then 1 else if m = 62 ∧ t = 6 then 3
  else if m = 62 ∧ t = 7 then 3 else if m = 62 ∧ t = 8 then 2 else if m = 183 ∧ t = 257 then 1 else if m = 183 ∧ t = 1025 then 1
  else if m = 183 ∧ t = 1026 then 1 else if m = 183 ∧ t = 1027 then 2 else -1

theorem tab_two (m t : Int) (h : tab m t = 2) : (m = 62 ∧ t = 8) ∨ (m = 183 ∧ t = 1027) := by
  grind (splits := 30) [tab]

theorem tab_four (m t : Int) (h : 0 ≤ tab m t) : tab m t = 0 ∨ tab m t = 1 ∨ tab m t = 2 ∨ tab m t = 3 := by
  grind (splits := 30) [tab]

/-- One row of the table, read. -/
theorem row_step (k : Nat) (m t : Int) (rows : List (List Int)) (i : Nat) (a b c : Int) (hi : i < rows.length) (hr : rd_L1 rows i = [a, b, c]) (hs : (rows.length : Int) ≤ 100) (hc : 0 ≤ c ∧ c ≤ 3) :
    messuageref15_Of.l0 (k + 1) m t rows i = if m = a ∧ t = b then some c else messuageref15_Of.l0 k m t rows ((i + 1 : Nat) : Int) := by
  have hw : wrap64 ((i : Int) + 1) = ((i + 1 : Nat) : Int) := by unfold wrap64; omega
  have hwc : wrap64 c = c := by unfold wrap64; omega
  have r0 : rd [a, b, c] 0 = a := rfl
  have r1 : rd [a, b, c] 1 = b := rfl
  have r2 : rd [a, b, c] 2 = c := rfl
  simp only [messuageref15_Of.l0]
  rw [if_pos (by omega), if_pos (by omega), hr, hw, r0, r1, r2, hwc]
  simp only [List.length_cons, List.length_nil]
  by_cases h1 : a = m
  · by_cases h2 : b = t
    · simp [h1, h2]
    · have h3 : ¬ t = b := fun h => h2 h.symm
      simp [h1, h2, h3]
  · have h3 : ¬ m = a := fun h => h1 h.symm
    simp [h1, h3]

theorem ref_of (k : Nat) (m t : Int) (hk : 11 ≤ k) : messuageref15_Of.f k m t = some (tab m t) := by
  obtain ⟨k, rfl⟩ : ∃ n, k = n + 11 := ⟨k - 11, by omega⟩
  unfold messuageref15_Of.f
  have e0 := row_step (k + 10) m t [[62, 0, 0], [183, 0, 0], [62, 1, 1], [62, 6, 3], [62, 7, 3], [62, 8, 2], [183, 257, 1], [183, 1025, 1], [183, 1026, 1], [183, 1027, 2]] 0 62 0 0 (by decide) rfl (by decide) (by decide)
  have e1 := row_step (k + 9) m t [[62, 0, 0], [183, 0, 0], [62, 1, 1], [62, 6, 3], [62, 7, 3], [62, 8, 2], [183, 257, 1], [183, 1025, 1], [183, 1026, 1], [183, 1027, 2]] 1 183 0 0 (by decide) rfl (by decide) (by decide)
  have e2 := row_step (k + 8) m t [[62, 0, 0], [183, 0, 0], [62, 1, 1], [62, 6, 3], [62, 7, 3], [62, 8, 2], [183, 257, 1], [183, 1025, 1], [183, 1026, 1], [183, 1027, 2]] 2 62 1 1 (by decide) rfl (by decide) (by decide)
  have e3 := row_step (k + 7) m t [[62, 0, 0], [183, 0, 0], [62, 1, 1], [62, 6, 3], [62, 7, 3], [62, 8, 2], [183, 257, 1], [183, 1025, 1], [183, 1026, 1], [183, 1027, 2]] 3 62 6 3 (by decide) rfl (by decide) (by decide)
  have e4 := row_step (k + 6) m t [[62, 0, 0], [183, 0, 0], [62, 1, 1], [62, 6, 3], [62, 7, 3], [62, 8, 2], [183, 257, 1], [183, 1025, 1], [183, 1026, 1], [183, 1027, 2]] 4 62 7 3 (by decide) rfl (by decide) (by decide)
  have e5 := row_step (k + 5) m t [[62, 0, 0], [183, 0, 0], [62, 1, 1], [62, 6, 3], [62, 7, 3], [62, 8, 2], [183, 257, 1], [183, 1025, 1], [183, 1026, 1], [183, 1027, 2]] 5 62 8 2 (by decide) rfl (by decide) (by decide)
  have e6 := row_step (k + 4) m t [[62, 0, 0], [183, 0, 0], [62, 1, 1], [62, 6, 3], [62, 7, 3], [62, 8, 2], [183, 257, 1], [183, 1025, 1], [183, 1026, 1], [183, 1027, 2]] 6 183 257 1 (by decide) rfl (by decide) (by decide)
  have e7 := row_step (k + 3) m t [[62, 0, 0], [183, 0, 0], [62, 1, 1], [62, 6, 3], [62, 7, 3], [62, 8, 2], [183, 257, 1], [183, 1025, 1], [183, 1026, 1], [183, 1027, 2]] 7 183 1025 1 (by decide) rfl (by decide) (by decide)
  have e8 := row_step (k + 2) m t [[62, 0, 0], [183, 0, 0], [62, 1, 1], [62, 6, 3], [62, 7, 3], [62, 8, 2], [183, 257, 1], [183, 1025, 1], [183, 1026, 1], [183, 1027, 2]] 8 183 1026 1 (by decide) rfl (by decide) (by decide)
  have e9 := row_step (k + 1) m t [[62, 0, 0], [183, 0, 0], [62, 1, 1], [62, 6, 3], [62, 7, 3], [62, 8, 2], [183, 257, 1], [183, 1025, 1], [183, 1026, 1], [183, 1027, 2]] 9 183 1027 2 (by decide) rfl (by decide) (by decide)
  have e10 : messuageref15_Of.l0 (k + 1) m t [[62, 0, 0], [183, 0, 0], [62, 1, 1], [62, 6, 3], [62, 7, 3], [62, 8, 2], [183, 257, 1], [183, 1025, 1], [183, 1026, 1], [183, 1027, 2]] ((9 + 1 : Nat) : Int) = some (-1) := by
    simp only [messuageref15_Of.l0]
    rw [if_neg (by decide)]
  rw [show ((0 : Nat) : Int) = 0 from rfl] at e0
  rw [e0, e1, e2, e3, e4, e5, e6, e7, e8, e9, e10]
  simp only [tab, apply_ite some]

theorem intel_eq (k : Nat) (t : Int) (hk : 0 < k) : apply_intel.f k t = some (if t = 1 then (1, true) else if t = 6 ∨ t = 7 then (3, true) else if t = 8 then (2, true) else (0, false)) := by
  obtain ⟨k, rfl⟩ : ∃ n, k = n + 1 := ⟨k - 1, by omega⟩
  unfold apply_intel.f
  simp only [apply_intel.j0, beq_iff_eq]
  by_cases h1 : t = 1
  · rw [if_pos h1, if_pos h1]
  · rw [if_neg h1, if_neg h1]
    by_cases h6 : t = 6
    · rw [if_pos h6, if_pos h6, if_pos (Or.inl h6)]
    · rw [if_neg h6]
      by_cases h7 : t = 7
      · rw [if_pos h7, if_pos (Or.inr h7)]
      · rw [if_neg h7, if_neg (show ¬ (t = 6 ∨ t = 7) from fun h => h.elim h6 h7)]
        split <;> rfl

theorem arm_eq (k : Nat) (t : Int) (hk : 0 < k) : apply_arm.f k t = some (if t = 257 ∨ t = 1025 ∨ t = 1026 then (1, true) else if t = 1027 then (2, true) else (0, false)) := by
  obtain ⟨k, rfl⟩ : ∃ n, k = n + 1 := ⟨k - 1, by omega⟩
  unfold apply_arm.f
  simp only [apply_arm.j0, beq_iff_eq]
  by_cases h1 : t = 257
  · rw [if_pos h1, if_pos h1, if_pos (Or.inl h1)]
  · rw [if_neg h1]
    by_cases h2 : t = 1025
    · rw [if_pos h2, if_pos h2, if_pos (Or.inr (Or.inl h2))]
    · rw [if_neg h2]
      by_cases h3 : t = 1026
      · rw [if_pos h3, if_pos (Or.inr (Or.inr h3))]
      · rw [if_neg h3, if_neg (show ¬ (t = 257 ∨ t = 1025 ∨ t = 1026) from fun h => h.elim h1 (fun h => h.elim h2 h3))]
        split <;> rfl

/-- What the program's Of answers: the kind, and whether there is one. -/
def ofP (m t : Int) : Int × Bool :=
  if t = 0 then (0, m == 62 || m == 183)
  else if m = 62 then (if t = 1 then (1, true) else if t = 6 ∨ t = 7 then (3, true) else if t = 8 then (2, true) else (0, false))
  else if m = 183 then (if t = 257 ∨ t = 1025 ∨ t = 1026 then (1, true) else if t = 1027 then (2, true) else (0, false))
  else (0, false)

theorem of_eq (k : Nat) (m t : Int) (hk : 0 < k) : apply_Of.f k m t = some (ofP m t) := by
  unfold apply_Of.f ofP
  rw [intel_eq k t hk, arm_eq k t hk]
  simp only [Option.bind_some]
  by_cases h0 : t = 0
  · rw [if_pos h0, if_pos h0]
    by_cases h1 : m = 62
    · rw [if_pos h1]; simp [h1]
    · rw [if_neg h1]; simp [h1]
  · rw [if_neg h0, if_neg h0]
    by_cases h1 : m = 62
    · rw [if_pos h1, if_pos h1]
    · rw [if_neg h1, if_neg h1]
      by_cases h2 : m = 183
      · rw [if_pos h2, if_pos h2]
      · rw [if_neg h2, if_neg h2]

/-- The two tables are one. -/
theorem of_tab (m t : Int) : ofP m t = if 0 ≤ tab m t then (tab m t, true) else (0, false) := by
  unfold ofP tab
  by_cases h1 : m = 62
  · subst h1
    by_cases h0 : t = 0
    · subst h0; rfl
    · simp only [h0, and_false, if_false, true_and, Int.reduceEq, false_and]
      by_cases a : t = 1
      · simp [a]
      · by_cases b : t = 6
        · simp [b]
        · by_cases c : t = 7
          · simp [c]
          · by_cases d : t = 8
            · simp [d]
            · simp [a, b, c, d]
  · by_cases h2 : m = 183
    · subst h2
      by_cases h0 : t = 0
      · subst h0; rfl
      · by_cases a : t = 257
        · simp [a]
        · by_cases b : t = 1025
          · simp [b]
          · by_cases c : t = 1026
            · simp [c]
            · by_cases d : t = 1027
              · simp [d]
              · simp [a, b, c, d, h0]
    · simp [h1, h2]

/-- The search for the relative type: no type from x on but r. -/
theorem rel_none (m : Int) (d : Nat) : ∀ (k : Nat) (x : Int), 0 ≤ x → x ≤ 2000 → 2000 - x = d → d + 11 < k → (∀ t, x ≤ t → t < 2000 → tab m t ≠ 2) → messuageref15_Relative.l0 k m x = some 0 := by
  induction d with
  | zero =>
    intro k x h0 h1 hd hk hn
    obtain ⟨k, rfl⟩ : ∃ n, k = n + 1 := ⟨k - 1, by omega⟩
    simp only [messuageref15_Relative.l0]
    rw [if_neg (by omega)]
  | succ d ih =>
    intro k x h0 h1 hd hk hn
    obtain ⟨k, rfl⟩ : ∃ n, k = n + 1 := ⟨k - 1, by omega⟩
    simp only [messuageref15_Relative.l0]
    rw [if_pos (by omega), ref_of k m x (by omega)]
    simp only [Option.bind_some]
    rw [if_neg (hn x (by omega) (by omega))]
    have hw : IntKind.u64.wrap (x + 1) = x + 1 := IntWalk.u64_in _ (by omega)
    rw [hw]
    exact ih k (x + 1) (by omega) (by omega) (by omega) (by omega) (fun t h h' => hn t (by omega) h')

theorem rel_some (m r : Int) (hr0 : 0 ≤ r) (hr : r < 2000) (hm : tab m r = 2) (d : Nat) : ∀ (k : Nat) (x : Int), 0 ≤ x → x ≤ r → r - x = d → d + 11 < k → (∀ t, x ≤ t → t < r → tab m t ≠ 2) → messuageref15_Relative.l0 k m x = some r := by
  induction d with
  | zero =>
    intro k x h0 h1 hd hk hn
    obtain rfl : x = r := by omega
    obtain ⟨k, rfl⟩ : ∃ n, k = n + 1 := ⟨k - 1, by omega⟩
    simp only [messuageref15_Relative.l0]
    rw [if_pos (by omega), ref_of k m x (by omega)]
    simp only [Option.bind_some]
    rw [if_pos hm]
    congr 1
    omega
  | succ d ih =>
    intro k x h0 h1 hd hk hn
    obtain ⟨k, rfl⟩ : ∃ n, k = n + 1 := ⟨k - 1, by omega⟩
    simp only [messuageref15_Relative.l0]
    rw [if_pos (by omega), ref_of k m x (by omega)]
    simp only [Option.bind_some]
    rw [if_neg (hn x (by omega) (by omega))]
    have hw : IntKind.u64.wrap (x + 1) = x + 1 := IntWalk.u64_in _ (by omega)
    rw [hw]
    exact ih k (x + 1) (by omega) (by omega) (by omega) (by omega) (fun t h h' => hn t (by omega) h')

theorem relative_eq (k : Nat) (m : Int) (hk : 2020 ≤ k) : messuageref15_Relative.f k m = some (if m = 62 then 8 else if m = 183 then 1027 else 0) := by
  unfold messuageref15_Relative.f
  by_cases h1 : m = 62
  · subst h1
    rw [if_pos rfl]
    exact rel_some 62 8 (by decide) (by decide) rfl 7 k 1 (by decide) (by decide) (by decide) (by omega) (fun t a b h => by rcases tab_two _ t h with ⟨_, _⟩ | ⟨_, _⟩ <;> omega)
  · rw [if_neg h1]
    by_cases h2 : m = 183
    · subst h2
      rw [if_pos rfl]
      exact rel_some 183 1027 (by decide) (by decide) rfl 1026 k 1 (by decide) (by decide) (by decide) (by omega) (fun t a b h => by rcases tab_two _ t h with ⟨_, _⟩ | ⟨_, _⟩ <;> omega)
    · rw [if_neg h2]
      exact rel_none m 1999 k 1 (by decide) (by decide) (by decide) (by omega) (fun t a b h => by rcases tab_two _ t h with ⟨_, _⟩ | ⟨_, _⟩ <;> omega)

theorem alive_eq (k : Nat) (hk : 0 < k) : messuagelaw15_alive.f k = some true := by
  unfold messuagelaw15_alive.f
  rw [of_eq k 62 8 hk]
  rfl

theorem ApplyKinds : messuagelaw15_ApplyKinds.Pure := by
  intro m t hm ht
  have hm' : 0 ≤ m ∧ m < 65536 := by
    have h : 0 ≤ m ∧ m ≤ 65535 := by simpa [Lit.wf, IntKind.min, IntKind.max, IntKind.bits, IntKind.signed] using hm
    omega
  have ht' : 0 ≤ t ∧ t < 4294967296 := by
    have h : 0 ≤ t ∧ t ≤ 4294967295 := by simpa [Lit.wf, IntKind.min, IntKind.max, IntKind.bits, IntKind.signed] using ht
    omega
  have wm : IntKind.u64.wrap m = m := IntWalk.u64_in _ (by omega)
  have wt : IntKind.u64.wrap t = t := IntWalk.u64_in _ (by omega)
  refine ⟨2022, ?_⟩
  unfold messuagelaw15_ApplyKinds.f
  rw [of_eq 2022 m t (by omega), wm, wt, ref_of 2022 m t (by omega)]
  simp only [Option.bind_some]
  have fin : ∀ c, (c = 0 ∨ c = 1 ∨ c = 2 ∨ c = 3) → messuagelaw15_ApplyKinds.j0 2022 m c false = some true := by
    intro c hc
    simp only [messuagelaw15_ApplyKinds.j0]
    rw [wm, relative_eq 2021 m (by omega), alive_eq 2021 (by omega)]
    unfold apply_Symbol.f apply_RelativeType.f
    rcases hc with rfl | rfl | rfl | rfl <;> (by_cases h1 : m = 62 <;> by_cases h2 : m = 183 <;> simp [h1, h2])
  rw [of_tab]
  by_cases hp : 0 ≤ tab m t
  · rw [if_pos hp]
    have hge : (tab m t ≥ 0) := hp
    simp only [hge, decide_true, bne_self_eq_false, Bool.false_eq_true, if_false, if_true]
    exact fin _ (tab_four m t hp)
  · rw [if_neg hp]
    have hge : ¬ (tab m t ≥ 0) := hp
    simp only [hge, decide_false, bne_self_eq_false, Bool.false_eq_true, if_false]
    exact fin 0 (Or.inl rfl)

end Go.Proofs.Ytpddjphanhkkfaa.Pure
