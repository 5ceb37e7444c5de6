/- A list behind another one, which begins with a place, tells what both tell: the plain statement. No condition. -/
import Derived.Test.YtpddjphanhkkfaaRelrFacts
import Derived.Test.YtpddjphanhkkfaaPx5
namespace Go.Proofs.Ytpddjphanhkkfaa.Pure
open Go.Proofs.Ytpddjphanhkkfaa.RelrFacts Go.RowKit Go.Proofs.Ytpddjphanhkkfaa.P Go.Proofs.Ytpddjphanhkkfaa.RelrPure Go.Proofs.Ytpddjphanhkkfaa.RelrIter Go.Proofs.Ytpddjphanhkkfaa.RelrEncPure Go.Proofs.YtpddjphanhkkfaaW.PrintWords Go.Proofs.YtpddjphanhkkfaaW.PrintLast

theorem dec_grows : ∀ (ws out : List Int) (frm : Int) (any : Bool) (m : List Int), dec ws out frm any = (m, 0) → out.length ≤ m.length
  | [], out, frm, any, m, h => by simp [dec] at h; rw [h]; exact Nat.le_refl _
  | n :: ws, out, frm, any, m, h => by
    rw [dec] at h
    split at h
    · split at h
      · cases h
      · split at h
        · cases h
        · have := dec_grows _ _ _ _ _ h
          rw [List.length_append] at this
          omega
    · split at h
      · split at h
        · cases h
        · split at h
          · cases h
          · have := dec_grows _ _ _ _ _ h
            rw [List.length_append] at this
            omega
      · cases h
/-- With places ahead of it a list tells the same behind them, as long as there aren't too many. -/
theorem dec_ahead (x : List Int) : ∀ (ws out : List Int) (frm : Int) (any : Bool) (m : List Int), dec ws out frm any = (m, 0) → x.length + out.length ≤ 512 → dec ws (x ++ out) frm any = if x.length + m.length > 512 then ([], 130) else (x ++ m, 0)
  | [], out, frm, any, m, h, hx => by
    simp [dec] at h
    subst h
    rw [dec, if_neg (by omega)]
  | n :: ws, out, frm, any, m, h, hx => by
    rw [dec] at h ⊢
    split at h
    · rename_i he
      rw [if_pos he]
      split at h
      · cases h
      · rename_i ho
        rw [if_neg ho]
        split at h
        · cases h
        · have hg := dec_grows _ _ _ _ _ h
          rw [List.length_append, List.length_singleton] at hg
          rw [List.length_append]
          by_cases hl : x.length + out.length + 1 > 512
          · rw [if_pos hl, if_pos (by omega)]
          · rw [if_neg hl, List.append_assoc]
            exact dec_ahead x ws _ _ _ m h (by rw [List.length_append, List.length_singleton]; omega)
    · rename_i he
      rw [if_neg he]
      split at h
      · rename_i ha
        rw [if_pos ha]
        split at h
        · cases h
        · rename_i ho
          rw [if_neg ho]
          split at h
          · cases h
          · have hg := dec_grows _ _ _ _ _ h
            rw [List.append_assoc, List.length_append]
            by_cases hl : x.length + (out ++ upto n frm 63).length > 512
            · rw [if_pos hl, if_pos (by omega)]
            · rw [if_neg hl]
              exact dec_ahead x ws _ _ _ m h (by omega)
      · cases h
theorem dec_split : ∀ (ws out : List Int) (frm : Int) (any : Bool) (m : List Int), dec ws out frm any = (m, 0) → ∃ f' a', ∀ vs, dec (ws ++ vs) out frm any = dec vs m f' a'
  | [], out, frm, any, m, h => by
    simp [dec] at h
    subst h
    exact ⟨frm, any, fun vs => rfl⟩
  | n :: ws, out, frm, any, m, h => by
    rw [dec] at h
    split at h
    · rename_i he
      split at h
      · cases h
      · rename_i ho
        split at h
        · cases h
        · rename_i hl
          obtain ⟨f', a', hv⟩ := dec_split _ _ _ _ _ h
          refine ⟨f', a', fun vs => ?_⟩
          rw [List.cons_append, dec, if_pos he, if_neg ho, if_neg hl, hv]
    · rename_i he
      split at h
      · rename_i ha
        split at h
        · cases h
        · rename_i ho
          split at h
          · cases h
          · rename_i hl
            obtain ⟨f', a', hv⟩ := dec_split _ _ _ _ _ h
            refine ⟨f', a', fun vs => ?_⟩
            rw [List.cons_append, dec, if_neg he, if_pos ha, if_neg ho, if_neg hl, hv]
      · cases h
theorem dec_any (ws out : List Int) (f : Int) (a' : Bool) (m : List Int) (h : dec ws [] 0 false = (m, 0)) : dec ws out f a' = dec ws out 0 false := by
  cases ws with
  | nil => rfl
  | cons n ws =>
    rw [dec] at h ⊢
    rw [dec]
    split at h
    · rename_i he
      rw [if_pos he, if_pos he]
    · cases h
theorem words_append (a b : List Int) (h : a.length % 8 = 0) : words (a ++ b) = words a ++ words b := by
  apply List.ext_getElem
  · simp only [List.length_append, words_len]
    omega
  · intro i h1 h2
    rw [words_len, List.length_append] at h1
    rw [List.getElem_append]
    split
    · rename_i hi
      rw [words_len] at hi
      simp only [words, List.getElem_map, List.getElem_range, word]
      rw [List.drop_append_of_le_length (by omega), List.take_append_of_le_length (by rw [List.length_drop]; omega)]
    · rename_i hi
      rw [words_len] at hi
      simp only [words, List.getElem_map, List.getElem_range, word, List.length_map, List.length_range]
      congr 2
      rw [List.drop_append, List.drop_eq_nil_of_le (by omega), List.nil_append]
      congr 1
      omega
theorem decode_join (a b x y : List Int) (ha : RelrPure.decode a = (x, 0)) (hb : RelrPure.decode b = (y, 0)) :
    RelrPure.decode (a ++ b) = if x.length + y.length > 512 ∨ a.length + b.length > 4096 then ([], 130) else (x ++ y, 0) := by
  unfold RelrPure.decode at ha hb ⊢
  split at ha
  · cases ha
  · split at hb
    · cases hb
    · rename_i h1 h2
      by_cases h3 : a.length + b.length > 4096
      · rw [if_pos (.inr (by rw [List.length_append]; exact h3)), if_pos (.inr h3)]
      · rw [if_neg (by rw [List.length_append]; omega), words_append a b (by omega)]
        obtain ⟨f', a', hv⟩ := dec_split _ _ _ _ _ ha
        have hx := dec_len (words a) [] 0 false (by simp)
        rw [ha] at hx
        have hx' : x.length ≤ 512 := hx
        rw [hv, dec_any (words b) x f' a' y hb]
        have := dec_ahead x (words b) [] 0 false y hb (by simpa using hx')
        rw [List.append_nil] at this
        rw [this]
        by_cases h4 : x.length + y.length > 512
        · rw [if_pos h4, if_pos (.inl h4)]
        · rw [if_neg h4, if_neg (by omega)]

theorem RelrJoin : messuagelaw13_RelrJoin.Pure := by
  intro a b ha1 ha2 hwa hb1 hb2 hwb
  have hba := bytes_of hwa
  have hbb := bytes_of hwb
  refine ⟨2003, ?_⟩
  unfold messuagelaw13_RelrJoin.f
  have hj0 : ∀ c : Bool, (c = false → a.length ≤ 4000 ∧ b.length ≤ 4000) → messuagelaw13_RelrJoin.j0 2003 a b c = some true := by
    intro c hc
    obtain ⟨K, hK⟩ : ∃ K, K = 2000 := ⟨_, rfl⟩
    rw [show 2003 = K + 1 + 1 + 1 by omega]
    simp only [messuagelaw13_RelrJoin.j0]
    cases c with
    | true => rfl
    | false =>
      obtain ⟨h1, h2⟩ := hc rfl
      have hab : Bytes (a ++ b) := fun x hx => (List.mem_append.1 hx).elim (hba x) (hbb x)
      rw [if_neg (by decide), decode_f hba, decode_f hbb]
      simp only [Option.bind_some, List.nil_append, List.length_nil, Nat.zero_add]
      rw [if_pos (by omega), if_pos (by omega), decode_f hab]
      simp only [Option.bind_some]
      have hxl := decode_len a
      have hyl := decode_len b
      have hj := decode_join a b
      obtain ⟨x, e, hx⟩ : ∃ x e, RelrPure.decode a = (x, e) := ⟨_, _, rfl⟩
      obtain ⟨y, f, hy⟩ : ∃ y f, RelrPure.decode b = (y, f) := ⟨_, _, rfl⟩
      rw [hx] at hxl hj ⊢
      rw [hy] at hyl hj ⊢
      simp only at hxl hyl ⊢
      by_cases he : e = 0
      · rw [if_pos he]
        by_cases hf : f = 0
        · subst he
          subst hf
          have hj := hj x y rfl rfl
          simp only [messuagelaw13_RelrJoin.j1]
          rw [if_neg (by decide), w64i _ (by omega) (by omega), hj]
          by_cases h5 : x.length + y.length > 512
          · rw [if_pos (by omega), if_pos (.inl h5)]
            simp only [messuagelaw13_RelrJoin.j2]
            rw [if_pos trivial, if_pos trivial, alive_yes]
            rfl
          · rw [if_neg (by omega), w64i _ (by omega) (by omega)]
            by_cases h6 : a.length + b.length > 4096
            · rw [if_pos (.inr h6)]
              simp only [messuagelaw13_RelrJoin.j2]
              rw [if_pos (by simp; omega), if_pos trivial, alive_yes]
              rfl
            · rw [if_neg (by omega)]
              simp only [messuagelaw13_RelrJoin.j2]
              rw [if_neg (by simp; omega), if_pos trivial]
              simp only [Option.bind_some, List.nil_append, List.length_nil, Nat.zero_add]
              rw [if_pos (by omega), if_pos (by omega), same_self _ (by rw [List.length_append]; omega) _ (by rw [List.length_append]; omega)]
              simp only [Option.bind_some, if_true]
              rw [alive_yes]
              rfl
        · have : (f != 0) = true := by simp [hf]
          rw [this]
          simp only [messuagelaw13_RelrJoin.j1]
          rw [if_pos trivial, alive_yes]
          rfl
      · rw [if_neg he]
        simp only [messuagelaw13_RelrJoin.j1]
        rw [if_pos trivial, alive_yes]
        rfl
  split
  · exact hj0 true (by simp)
  · rename_i h
    refine hj0 _ fun hc => ?_
    have := of_decide_eq_false hc
    omega

end Go.Proofs.Ytpddjphanhkkfaa.Pure
