/- What is told rises but at even words, and is at most 512 places: the plain statement. No condition. -/
import Derived.Test.YtpddjphanhkkfaaRelrFacts
import Derived.Test.YtpddjphanhkkfaaPx4
namespace Go.Proofs.Ytpddjphanhkkfaa.Pure
open Go.Proofs.Ytpddjphanhkkfaa.RelrFacts Go.RowKit Go.Proofs.Ytpddjphanhkkfaa.P Go.Proofs.Ytpddjphanhkkfaa.RelrPure Go.Proofs.Ytpddjphanhkkfaa.RelrIter Go.Proofs.Ytpddjphanhkkfaa.RelrEncPure Go.Proofs.YtpddjphanhkkfaaW.PrintWords Go.Proofs.YtpddjphanhkkfaaW.PrintLast

/-- How often a list doesn't rise. -/
def falls : List Int → Nat
  | [] => 0
  | [_] => 0
  | a :: b :: t => (if b ≤ a then 1 else 0) + falls (b :: t)
theorem falls_snoc (a b : Int) : ∀ xs : List Int, falls (xs ++ [a, b]) = falls (xs ++ [a]) + if b ≤ a then 1 else 0
  | [] => by simp [falls]
  | [x] => by simp [falls]
  | x :: y :: t => by
    have := falls_snoc a b (y :: t)
    simp only [List.cons_append, falls] at this ⊢
    omega
/-- The last of a list is below a number, or there is none. -/
def Low (xs : List Int) (z : Int) : Prop := ∀ ys a, xs = ys ++ [a] → a < z
theorem falls_one (xs : List Int) (b : Int) : falls (xs ++ [b]) ≤ falls xs + 1 := by
  rcases List.eq_nil_or_concat xs with rfl | ⟨ys, a, rfl⟩
  · simp [falls]
  · rw [List.concat_eq_append, List.append_assoc]
    have := falls_snoc a b ys
    simp only [List.singleton_append] at this ⊢
    rw [this]
    split <;> omega
theorem falls_low (xs : List Int) (b : Int) (h : Low xs b) : falls (xs ++ [b]) = falls xs := by
  rcases List.eq_nil_or_concat xs with rfl | ⟨ys, a, rfl⟩
  · simp [falls]
  · have := h ys a (List.concat_eq_append ..)
    rw [List.concat_eq_append, List.append_assoc]
    have h2 := falls_snoc a b ys
    simp only [List.singleton_append] at h2 ⊢
    rw [h2, if_neg (by omega)]
    rfl
theorem low_snoc (xs : List Int) (b z : Int) (h : b < z) : Low (xs ++ [b]) z := by
  intro ys a e
  have := (List.append_inj' e rfl).2
  simp at this
  omega
theorem low_mono {xs : List Int} {y z : Int} (h : Low xs y) (hz : y ≤ z) : Low xs z := fun ys a e => by have := h ys a e; omega
theorem falls_upto (n frm : Int) (out : List Int) (hf : 0 ≤ frm) (h : Low out frm) : ∀ k : Nat, frm + 8 * k ≤ 18446744073709551616 → falls (out ++ upto n frm k) = falls out ∧ Low (out ++ upto n frm k) (frm + 8 * k)
  | 0, _ => by simpa [upto] using h
  | k + 1, hk => by
    obtain ⟨h1, h2⟩ := falls_upto n frm out hf h k (by omega)
    rw [upto]
    split
    · rw [← List.append_assoc, w64 _ (by omega) (by omega)]
      rw [falls_low _ _ h2]
      exact ⟨h1, low_snoc _ _ _ (by omega)⟩
    · exact ⟨h1, low_mono h2 (by omega)⟩
def evens (ws : List Int) : Nat := ws.countP fun n => n % 2 = 0
theorem dec_rises : ∀ (ws out : List Int) (frm : Int) (any : Bool) (m : List Int), (∀ n ∈ ws, 0 ≤ n ∧ n < 18446744073709551616) → 0 ≤ frm → frm < 18446744073709551616 → Low out frm → dec ws out frm any = (m, 0) → falls m ≤ falls out + evens ws ∧ out.length + evens ws ≤ m.length
  | [], out, frm, any, m, _, _, _, _, h => by
    simp [dec] at h
    subst h
    simp [evens]
  | n :: ws, out, frm, any, m, hb, h0, h1, hl, h => by
    have hn := hb n (List.mem_cons_self ..)
    have hb' : ∀ n ∈ ws, 0 ≤ n ∧ n < 18446744073709551616 := fun x hx => hb x (List.mem_cons_of_mem _ hx)
    rw [dec] at h
    by_cases he : n % 2 = 0
    · rw [if_pos he] at h
      have hev : evens (n :: ws) = evens ws + 1 := by simp [evens, he]
      split at h
      · cases h
      · split at h
        · cases h
        · obtain ⟨g1, g2⟩ := dec_rises ws _ _ _ m hb' (by omega) (by omega) (low_snoc _ _ _ (by omega)) h
          have := falls_one out n
          rw [List.length_append, List.length_singleton] at g2
          omega
    · rw [if_neg he] at h
      have hev : evens (n :: ws) = evens ws := by simp [evens, he]
      split at h
      · split at h
        · cases h
        · split at h
          · cases h
          · obtain ⟨f1, f2⟩ := falls_upto n frm out h0 hl 63 (by omega)
            obtain ⟨g1, g2⟩ := dec_rises ws _ _ _ m hb' (by omega) (by omega) (low_mono f2 (by omega)) h
            rw [List.length_append] at g2
            omega
      · cases h
theorem dec_err : ∀ (ws out : List Int) (frm : Int) (any : Bool), (dec ws out frm any).2 = 0 ∨ (dec ws out frm any).1 = []
  | [], _, _, _ => .inl rfl
  | n :: ws, out, frm, any => by
    rw [dec]
    split
    · split
      · exact .inr rfl
      · split
        · exact .inr rfl
        · exact dec_err _ _ _ _
    · split
      · split
        · exact .inr rfl
        · split
          · exact .inr rfl
          · exact dec_err _ _ _ _
      · exact .inr rfl
theorem decode_err (l : List Int) : (RelrPure.decode l).2 = 0 ∨ (RelrPure.decode l).1 = [] := by
  unfold RelrPure.decode
  split
  · exact .inr rfl
  · exact dec_err _ _ _ _
theorem words_in (l : List Int) (hl : Bytes l) : ∀ n ∈ words l, 0 ≤ n ∧ n < 18446744073709551616 := by
  intro n hn
  simp only [words, List.mem_map, List.mem_range] at hn
  obtain ⟨k, hk, rfl⟩ := hn
  exact word_bound l hl k (by omega)
theorem low_nil (z : Int) : Low [] z := fun ys a e => by
  have := congrArg List.length e
  simp at this
theorem decode_rises (l : List Int) (hl : Bytes l) (m : List Int) (h : RelrPure.decode l = (m, 0)) : falls m ≤ evens (words l) ∧ evens (words l) ≤ m.length ∧ l.length % 8 = 0 := by
  unfold RelrPure.decode at h
  split at h
  · cases h
  · have := dec_rises _ _ _ _ m (words_in l hl) (by omega) (by omega) (low_nil 0) h
    simp [falls] at this
    omega
/-- A word is even where its first byte is. -/
theorem word_even (l : List Int) (k : Nat) (h : 8 * k < l.length) : word l k % 2 = rd l ((8 * k : Nat) : Int) % 2 := by
  unfold word
  rw [List.drop_eq_getElem_cons h, ← rd_nat l (8 * k) h, List.take_succ_cons, leVal]
  omega
theorem count_evens (l m : List Int) (hl : Bytes l) (hlen : l.length ≤ 4096) (h8 : l.length % 8 = 0) (r : Option Bool) (K : Nat) (hfin : ∀ k, K ≤ k → messuagelaw13_RelrRises.l1 k m ((evens (words l) : Nat) : Int) 0 1 = r) :
    ∀ (d i k : Nat) (c : Nat), l.length / 8 - i = d → i ≤ l.length / 8 → K + d + 1 ≤ k → c + evens ((words l).drop i) = evens (words l) → messuagelaw13_RelrRises.l0 k l m (c : Int) ((8 * i : Nat) : Int) = r := by
  intro d
  induction d with
  | zero =>
    intro i k c hd hi hk hc
    obtain ⟨k, rfl⟩ : ∃ m, k = m + 1 := ⟨k - 1, by omega⟩
    simp only [messuagelaw13_RelrRises.l0]
    rw [if_neg (by omega)]
    rw [words_all l i (by omega)] at hc
    have : c = evens (words l) := by simpa [evens] using hc
    rw [this]
    exact hfin k (by omega)
  | succ d ih =>
    intro i k c hd hi hk hc
    obtain ⟨k, rfl⟩ : ∃ m, k = m + 1 := ⟨k - 1, by omega⟩
    simp only [messuagelaw13_RelrRises.l0]
    rw [if_pos (by omega), if_pos (by omega)]
    have hw := word_even l i (by omega)
    have e1 : wrap64 (((8 * i : Nat) : Int) + 8) = ((8 * (i + 1) : Nat) : Int) := by rw [w64i _ (by omega) (by omega)]; omega
    rw [words_drop l i (by omega)] at hc
    have hcl : evens (words l) ≤ 4096 := by
      have := List.countP_le_length (p := fun n : Int => decide (n % 2 = 0)) (l := words l)
      rw [words_len] at this
      unfold evens
      omega
    rw [e1]
    have hm : Int.tmod (rd l ((8 * i : Nat) : Int)) 2 = 0 ↔ word l i % 2 = 0 := by
      rw [hw, Int.tmod_eq_emod_of_nonneg (hl.at_ _).1]
    by_cases he : word l i % 2 = 0
    · have : evens (word l i :: (words l).drop (i + 1)) = evens ((words l).drop (i + 1)) + 1 := by simp [evens, he]
      rw [if_pos (hm.2 he), w64i ((c : Int) + 1) (by omega) (by omega)]
      exact ih (i + 1) k (c + 1) (by omega) (by omega) (by omega) (by omega)
    · have : evens (word l i :: (words l).drop (i + 1)) = evens ((words l).drop (i + 1)) := by simp [evens, he]
      rw [if_neg (fun h => he (hm.1 h))]
      exact ih (i + 1) k c (by omega) (by omega) (by omega) (by omega)
theorem count_falls (m : List Int) (ev : Nat) (hm : m.length ≤ 512) (h1 : ev ≤ m.length) (h2 : falls m ≤ ev) : ∀ (d j k : Nat), m.length - j = d → 1 ≤ j → j ≤ m.length → d + 1 ≤ k →
    messuagelaw13_RelrRises.l1 k m (ev : Int) ((falls (m.take j) : Nat) : Int) j = some true := by
  intro d
  induction d with
  | zero =>
    intro j k hd hj1 hj hk
    obtain ⟨k, rfl⟩ : ∃ m, k = m + 1 := ⟨k - 1, by omega⟩
    simp only [messuagelaw13_RelrRises.l1]
    rw [if_neg (by omega), if_pos (by omega), if_pos (by omega), List.take_of_length_le (by omega), if_pos (by omega), alive_yes]
    rfl
  | succ d ih =>
    intro j k hd hj1 hj hk
    obtain ⟨k, rfl⟩ : ∃ m, k = m + 1 := ⟨k - 1, by omega⟩
    obtain ⟨i, rfl⟩ : ∃ i, j = i + 1 := ⟨j - 1, by omega⟩
    simp only [messuagelaw13_RelrRises.l1]
    have e1 : wrap64 (((i + 1 : Nat) : Int) - 1) = (i : Int) := by rw [w64i _ (by omega) (by omega)]; omega
    have e2 : wrap64 (((i + 1 : Nat) : Int) + 1) = ((i + 1 + 1 : Nat) : Int) := by rw [w64i _ (by omega) (by omega)]; omega
    rw [e1, e2, if_pos (by omega), if_pos (by omega), if_pos (by omega), if_pos (by omega)]
    have ht : m.take (i + 1 + 1) = m.take i ++ [rd m (i : Int), rd m ((i + 1 : Nat) : Int)] := by
      rw [List.take_succ_eq_append_getElem (by omega), List.take_succ_eq_append_getElem (by omega), rd_nat m i (by omega), rd_nat m (i + 1) (by omega), List.append_assoc]
      rfl
    have ht1 : m.take (i + 1) = m.take i ++ [rd m (i : Int)] := by
      rw [List.take_succ_eq_append_getElem (by omega), rd_nat m i (by omega)]
    have hs := falls_snoc (rd m (i : Int)) (rd m ((i + 1 : Nat) : Int)) (m.take i)
    rw [← ht, ← ht1] at hs
    have hle : falls (m.take (i + 1)) ≤ 512 := by
      have : ∀ xs : List Int, falls xs ≤ xs.length := by
        intro xs
        induction xs using falls.induct with
        | case1 => simp [falls]
        | case2 => simp [falls]
        | case3 a b t ih => rw [falls]; simp at ih ⊢; split <;> omega
      have := this (m.take (i + 1))
      rw [List.length_take] at this
      omega
    have hI := ih (i + 1 + 1) k (by omega) (by omega) (by omega) (by omega)
    rw [hs] at hI
    by_cases hc : rd m ((i + 1 : Nat) : Int) ≤ rd m (i : Int)
    · rw [if_pos hc, w64i _ (by omega) (by omega)]
      rw [if_pos hc] at hI
      exact hI
    · rw [if_neg hc]
      rw [if_neg hc] at hI
      exact hI

theorem RelrRises : messuagelaw13_RelrRises.Pure := by
  intro l hl1 hl2 hw
  have hb := bytes_of hw
  refine ⟨l.length + 5000, ?_⟩
  unfold messuagelaw13_RelrRises.f
  by_cases h : (l.length : Int) > 8192
  · rw [if_pos h]
  · rw [if_neg h, decode_f hb]
    simp only [Option.bind_some]
    have hlen := decode_len l
    obtain ⟨m, e, hd⟩ : ∃ m e, RelrPure.decode l = (m, e) := ⟨_, _, rfl⟩
    rw [hd] at hlen ⊢
    simp only at hlen ⊢
    by_cases he : e = 0
    · subst he
      obtain ⟨g1, g2, g3⟩ := decode_rises l hb m hd
      have h4 : l.length ≤ 4096 := by
        unfold RelrPure.decode at hd
        split at hd
        · cases hd
        · omega
      rw [if_pos rfl]
      have hfin : ∀ k, 1000 ≤ k → messuagelaw13_RelrRises.l1 k m ((evens (words l) : Nat) : Int) 0 1 = some true := by
        intro k hk
        by_cases hne : m = []
        · subst hne
          obtain ⟨k, rfl⟩ : ∃ m, k = m + 1 := ⟨k - 1, by omega⟩
          simp only [messuagelaw13_RelrRises.l1]
          simp at g2
          rw [g2]
          simp [alive_yes]
        · have hp := List.length_pos_iff.2 hne
          have := count_falls m (evens (words l)) hlen g2 g1 (m.length - 1) 1 k rfl (by omega) (by omega) (by omega)
          have hz : falls (m.take 1) = 0 := by
            cases m with
            | nil => simp at hp
            | cons a t => simp [falls]
          rw [hz] at this
          exact this
      exact count_evens l m hb h4 g3 (some true) 1000 hfin (l.length / 8) 0 _ 0 (by omega) (by omega) (by omega) (by simp)
    · rw [if_neg he]
      have := decode_err l
      rw [hd] at this
      have hm : m = [] := by
        rcases this with h | h
        · exact absurd h he
        · exact h
      subst hm
      rw [if_pos (by simp), alive_yes]
      rfl

end Go.Proofs.Ytpddjphanhkkfaa.Pure
