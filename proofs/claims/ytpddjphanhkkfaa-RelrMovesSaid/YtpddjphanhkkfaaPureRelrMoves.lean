/- Places that all lie so much further are told by the same rows of bits: the plain statement. No condition. -/
import Derived.Test.YtpddjphanhkkfaaRelrBackL
import Derived.Test.YtpddjphanhkkfaaPx6
namespace Go.Proofs.Ytpddjphanhkkfaa.Pure
open Go.Proofs.Ytpddjphanhkkfaa.RelrFacts Go.Proofs.Ytpddjphanhkkfaa.RelrBackL Go.Proofs.Ytpddjphanhkkfaa.RelrRow Go.RowKit Go.Proofs.Ytpddjphanhkkfaa.P Go.Proofs.Ytpddjphanhkkfaa.Buf Go.Proofs.Ytpddjphanhkkfaa.RelrPure Go.Proofs.Ytpddjphanhkkfaa.RelrEncPure Go.Proofs.YtpddjphanhkkfaaW.PrintWords Go.Proofs.YtpddjphanhkkfaaW.PrintLast

/-- A word of the moved list. -/
def sh (by_ n : Int) : Int := if n % 2 = 0 then n + by_ else n
theorem rowS_move (by_ frm : Int) : ∀ (ps : List Int) (acc : Int), rowS (frm + by_) (ps.map (· + by_)) acc = rowS frm ps acc
  | [], _ => rfl
  | p :: ps, acc => by
    rw [List.map_cons, rowS, rowS, show p + by_ - (frm + by_) = p - frm by omega, rowS_move by_ frm ps]
    have : inRow (frm + by_) (p + by_) ↔ inRow frm p := by unfold inRow; omega
    by_cases h : inRow frm p
    · rw [if_pos h, if_pos (this.2 h)]
    · rw [if_neg h, if_neg (fun h' => h (this.1 h'))]
theorem enc_move (by_ : Int) : ∀ k : Nat, (∀ ps : List Int, RelrBackL.Good ps → encW k (ps.map (· + by_)) = (encW k ps).map (sh by_)) ∧ (∀ (ps : List Int) (frm : Int), 0 ≤ frm → RelrBackL.Good ps → encR k (ps.map (· + by_)) (frm + by_) = (encR k ps frm).map (sh by_))
  | 0 => ⟨fun _ _ => rfl, fun _ _ _ _ => rfl⟩
  | k + 1 => by
    obtain ⟨ih1, ih2⟩ := enc_move by_ k
    refine ⟨fun ps hg => ?_, fun ps frm hf hg => ?_⟩
    · cases ps with
      | nil => rfl
      | cons p ps =>
        have he := hg.even p (List.mem_cons_self ..)
        have hl := hg.low p (List.mem_cons_self ..)
        rw [List.map_cons, encW, encW, List.map_cons, show p + by_ + 8 = p + 8 + by_ by omega, ih2 ps (p + 8) (by omega) hg.tail]
        congr 1
        unfold sh
        rw [if_pos he]
    · rw [encR, encR, rowS_move]
      by_cases ht : (rowS frm ps 1).2 = 0
      · rw [if_pos ht, if_pos ht, ih1 ps hg]
      · have hr := (row_read frm hf ps 1 0 hg.apart (fun p hp => by have := hg.low p hp; omega) (fun p t _ hin => by obtain ⟨c1, c2, c3⟩ := hin; omega) (by omega) (by omega) (by decide) (by omega)).2
        rw [if_neg ht, if_neg ht, List.map_cons, ← List.map_drop, show frm + by_ + 504 = frm + 504 + by_ by omega, ih2 _ (frm + 504) (by omega) (hg.drop _)]
        congr 1
        unfold sh
        rw [if_neg (by omega)]
theorem rd_map (by_ : Int) (l : List Int) (i : Nat) (h : i < l.length) : rd (l.map (· + by_)) (i : Int) = rd l (i : Int) + by_ := by
  rw [rd_nat _ i (by rw [List.length_map]; exact h), rd_nat l i h, List.getElem_map]
theorem ok_move (by_ : Int) (l : List Int) (hw : ∀ x ∈ l, 0 ≤ x ∧ x < 4611686018427387904) (h0 : 0 ≤ by_) (h1 : by_ < 4611686018427387904) (h2 : by_ % 2 = 0) (i : Nat) (hi : i < l.length) : okAt (l.map (· + by_)) i ↔ okAt l i := by
  unfold okAt
  have hx := hw l[i] (List.getElem_mem hi)
  rw [rd_map by_ l i hi]
  rw [← rd_nat l i hi] at hx
  rcases Nat.eq_zero_or_pos i with h | h
  · omega
  · obtain ⟨j, rfl⟩ : ∃ j, i = j + 1 := ⟨i - 1, by omega⟩
    rw [show ((j + 1 : Nat) : Int) - 1 = (j : Int) by omega, rd_map by_ l j (by omega)]
    omega
theorem encode_move (by_ : Int) (l : List Int) (hw : ∀ x ∈ l, 0 ≤ x ∧ x < 4611686018427387904) (h0 : 0 ≤ by_) (h1 : by_ < 4611686018427387904) (h2 : by_ % 2 = 0) :
    (RelrEncPure.encode (l.map (· + by_)) = ([], 130) ∧ RelrEncPure.encode l = ([], 130)) ∨ ∃ ws, RelrEncPure.encode l = (flat ws, 0) ∧ RelrEncPure.encode (l.map (· + by_)) = (flat (ws.map (sh by_)), 0) ∧ (∀ n ∈ ws, 0 ≤ n ∧ n < 18446744073709551616) ∧ (∀ n ∈ ws, 0 ≤ sh by_ n ∧ sh by_ n < 18446744073709551616) ∧ ws.length ≤ 512 := by
  have hww : Words l := fun x hx => by have := hw x hx; omega
  unfold RelrEncPure.encode
  rw [List.length_map]
  by_cases hl : l.length > 512
  · rw [if_pos hl, if_pos hl]
    exact .inl ⟨rfl, rfl⟩
  · rw [if_neg hl, if_neg hl]
    by_cases hok : ∀ i, i < l.length → okAt l i
    · have hok' : ∀ i, i < l.length → okAt (l.map (· + by_)) i := fun i hi => (ok_move by_ l hw h0 h1 h2 i hi).2 (hok i hi)
      rw [if_pos hok, if_pos hok']
      have hg := good_of l hww hok
      have hm := (enc_move by_ (2 * l.length + 1)).1 l hg
      have hr := (read_back (2 * l.length + 1)).1 l [] 0 false (Nat.le_refl _) hg (by simp; omega)
      have hwm : Words (l.map (· + by_)) := fun x hx => by
        obtain ⟨y, hy, rfl⟩ := List.mem_map.1 hx
        have := hw y hy
        show 0 ≤ y + by_ ∧ y + by_ < _
        omega
      have hin := (enc_in (2 * l.length + 1)).1 _ (good_of (l.map (· + by_)) hwm (by rw [List.length_map]; exact hok'))
      rw [hm] at hin
      exact .inr ⟨_, rfl, by rw [hm], (enc_in (2 * l.length + 1)).1 l hg, fun n hn => hin _ (List.mem_map_of_mem hn), by omega⟩
    · have hok' : ¬ ∀ i, i < l.length → okAt (l.map (· + by_)) i := fun h => hok fun i hi => (ok_move by_ l hw h0 h1 h2 i hi).1 (h i hi)
      rw [if_neg hok, if_neg hok']
      exact .inl ⟨rfl, rfl⟩

theorem N_flat (ws : List Int) (hw : ∀ n ∈ ws, 0 ≤ n ∧ n < 18446744073709551616) (hlen : ws.length ≤ 512) (i : Nat) (h : i < ws.length) (k : Nat) (hk : 10 ≤ k) : messuageref08_N.f k (flat ws) ((8 * i : Nat) : Int) 8 = some ws[i] := by
  have := n_at (flat ws) (flat_bytes ws) (8 * i) (by rw [flat_len]; omega) (by rw [flat_len]; omega) k hk
  rw [this]
  have h2 := word_flat ws hw i h
  unfold word at h2
  rw [h2]

theorem loop_words (by_ : Int) (ws : List Int) (hw : ∀ n ∈ ws, 0 ≤ n ∧ n < 18446744073709551616) (hw' : ∀ n ∈ ws, 0 ≤ sh by_ n ∧ sh by_ n < 18446744073709551616) (hlen : ws.length ≤ 512) : ∀ (d i k : Nat), ws.length - i = d → i ≤ ws.length → d + 20 ≤ k →
    messuagelaw13_RelrMoves.l1 k by_ (flat ws) (flat (ws.map (sh by_))) ((8 * i : Nat) : Int) = some true := by
  intro d
  induction d with
  | zero =>
    intro i k hd hi hk
    obtain ⟨k, rfl⟩ : ∃ m, k = m + 1 := ⟨k - 1, by omega⟩
    simp only [messuagelaw13_RelrMoves.l1]
    rw [if_neg (by rw [flat_len]; omega), alive_yes]
    rfl
  | succ d ih =>
    intro i k hd hi hk
    obtain ⟨k, rfl⟩ : ∃ m, k = m + 1 := ⟨k - 1, by omega⟩
    have hlt : i < ws.length := by omega
    have hw2 : ∀ n ∈ ws.map (sh by_), 0 ≤ n ∧ n < 18446744073709551616 := fun n hn => by
      obtain ⟨y, hy, rfl⟩ := List.mem_map.1 hn
      exact hw' y hy
    have h1 := N_flat ws hw hlen i hlt k (by omega)
    have h2 := N_flat (ws.map (sh by_)) hw2 (by rw [List.length_map]; exact hlen) i (by rw [List.length_map]; exact hlt) k (by omega)
    rw [List.getElem_map] at h2
    have hI := ih (i + 1) k (by omega) (by omega) (by omega)
    have hb := hw ws[i] (List.getElem_mem hlt)
    have hb' := hw' ws[i] (List.getElem_mem hlt)
    generalize ws[i] = n at h1 h2 hb hb'
    simp only [messuagelaw13_RelrMoves.l1]
    rw [if_pos (by rw [flat_len]; omega), w64 _ (by omega) (by omega), h1, h2]
    simp only [Option.bind_some]
    rw [Int.tmod_eq_emod_of_nonneg hb.1, show wrap64 (((8 * i : Nat) : Int) + 8) = ((8 * (i + 1) : Nat) : Int) by rw [w64i _ (by omega) (by omega)]; omega, hI]
    unfold sh at hb' ⊢
    by_cases he : n % 2 = 0
    · rw [if_pos he] at hb'
      rw [if_neg (by omega), if_pos he, if_pos he, w64 _ hb'.1 hb'.2, if_pos rfl]
    · rw [if_pos (by omega), if_neg he, if_pos rfl, if_neg he]

theorem build (by_ : Int) (l : List Int) (hw : Words l) (hlen : l.length ≤ 500) (h0 : 0 ≤ by_) (h1 : by_ < 4611686018427387904) (h2 : by_ % 2 = 0) : ∀ (d i k : Nat), l.length - i = d → i ≤ l.length → (∀ x ∈ l.take i, x < 4611686018427387904) → d + 600 ≤ k →
    messuagelaw13_RelrMoves.l0 k l by_ ((l.take i).map (· + by_)) i = some true := by
  intro d
  induction d with
  | zero =>
    intro i k hd hi hs hk
    obtain ⟨k, rfl⟩ : ∃ m, k = m + 1 + 1 + 1 := ⟨k - 3, by omega⟩
    simp only [messuagelaw13_RelrMoves.l0]
    rw [List.take_of_length_le (by omega)] at hs ⊢
    have hs2 : ∀ x ∈ l, 0 ≤ x ∧ x < 4611686018427387904 := fun x hx => ⟨(hw x hx).1, hs x hx⟩
    have hwm : Words (l.map (· + by_)) := fun x hx => by
      obtain ⟨y, hy, rfl⟩ := List.mem_map.1 hx
      have := hs2 y hy
      show 0 ≤ y + by_ ∧ y + by_ < _
      omega
    rw [if_neg (by omega), encode_f hw, encode_f hwm]
    simp only [Option.bind_some]
    rcases encode_move by_ l hs2 h0 h1 h2 with ⟨e1, e2⟩ | ⟨ws, e1, e2, e3, e4, e5⟩
    · rw [e1, e2]
      simp only [messuagelaw13_RelrMoves.j2]
      rw [if_neg (by decide), if_pos trivial, if_pos trivial, alive_yes]
      rfl
    · rw [e1, e2]
      simp only [messuagelaw13_RelrMoves.j2]
      rw [if_pos trivial, if_neg (by decide), flat_len, flat_len, List.length_map, if_pos rfl]
      simp only [messuagelaw13_RelrMoves.j3]
      rw [if_neg (by simp)]
      exact loop_words by_ ws e3 e4 e5 ws.length 0 k rfl (by omega) (by omega)
  | succ d ih =>
    intro i k hd hi hs hk
    obtain ⟨k, rfl⟩ : ∃ m, k = m + 1 := ⟨k - 1, by omega⟩
    have hlt : i < l.length := by omega
    simp only [messuagelaw13_RelrMoves.l0]
    rw [if_pos (by omega), if_pos (by omega)]
    have hp := hw.at_ (i : Int)
    by_cases hb : rd l (i : Int) ≥ 4611686018427387904
    · rw [if_pos hb]
    · rw [if_neg hb, if_pos (by rw [List.length_map, List.length_take]; omega), w64 _ (by omega) (by omega), w64i _ (by omega) (by omega)]
      have := ih (i + 1) k (by omega) (by omega) (fun x hx => by
        rw [List.take_succ_eq_append_getElem hlt] at hx
        rcases List.mem_append.1 hx with hx | hx
        · exact hs x hx
        · rw [← rd_nat l i hlt] at hx
          have : x = rd l (i : Int) := by simpa using hx
          omega) (by omega)
      rw [List.take_succ_eq_append_getElem hlt, List.map_append, ← rd_nat l i hlt] at this
      exact this

theorem RelrMoves : messuagelaw13_RelrMoves.Pure := by
  intro l by_ hl1 hl2 hw hby
  have hb := words_of hw
  have hy : 0 ≤ by_ ∧ by_ ≤ 18446744073709551615 := by simpa [Lit.wf, IntKind.min, IntKind.max, IntKind.bits, IntKind.signed] using hby
  refine ⟨2001, ?_⟩
  unfold messuagelaw13_RelrMoves.f
  have hj : ∀ c : Bool, (c = false → l.length ≤ 500 ∧ by_ % 2 = 0 ∧ by_ < 4611686018427387904) → messuagelaw13_RelrMoves.j0 2001 l by_ c = some true := by
    intro c hc
    obtain ⟨K, hK⟩ : ∃ K, K = 2000 := ⟨_, rfl⟩
    rw [show 2001 = K + 1 by omega]
    simp only [messuagelaw13_RelrMoves.j0]
    cases c with
    | true => rfl
    | false =>
      obtain ⟨c1, c2, c3⟩ := hc rfl
      rw [if_neg (by decide)]
      exact build by_ l hb c1 hy.1 c3 c2 l.length 0 K rfl (by omega) (by simp) (by omega)
  rw [Int.tmod_eq_emod_of_nonneg hy.1]
  split
  · exact hj true (by simp)
  · split
    · exact hj true (by simp)
    · rename_i a1 a2
      refine hj _ fun hc => ?_
      have := of_decide_eq_false hc
      omega
end Go.Proofs.Ytpddjphanhkkfaa.Pure
