/- What headers say hangs on the headers alone: the plain statement. No condition. -/
import Derived.Test.YtlegpojjbeglhaaHeadParse
import Derived.Test.YtlegpojjbeglhaaPx12
namespace Go.Proofs.Ytlegpojjbeglhaa.Pure
open Go.RowKit Go.Proofs.Ytlegpojjbeglhaa.P Go.Proofs.Ytlegpojjbeglhaa.HeadPure Go.Proofs.Ytlegpojjbeglhaa.HeadFacts Go.Proofs.Ytlegpojjbeglhaa.HeadParse Go.Proofs.YtlegpojjbeglhaaW.PrintWords Go.Proofs.YtlegpojjbeglhaaW.PrintLast

/-- What is read of bytes that lie outside of the turned place. -/
theorem U_set (l : List Int) (p : Nat) (v : Int) (a n : Nat) (h : p < a ∨ a + n ≤ p) : U (l.set p v) a n = U l a n := by
  unfold U
  congr 1
  apply List.ext_getElem?
  intro i
  rw [List.getElem?_take, List.getElem?_take]
  by_cases hi : i < n
  · rw [if_pos hi, if_pos hi, List.getElem?_drop, List.getElem?_drop, List.getElem?_set_ne (by omega)]
  · rw [if_neg hi, if_neg hi]
theorem rd_set (l : List Int) (p : Nat) (v : Int) (i : Int) (h : i.toNat < p) : rd (l.set p v) i = rd l i := by
  unfold rd
  rw [List.getD_eq_getElem?_getD, List.getD_eq_getElem?_getD, List.getElem?_set_ne (by omega)]
theorem first_set (l : List Int) (p : Nat) (v : Int) (hp : 64 ≤ p) : firstOf (l.set p v) = firstOf l := by
  unfold firstOf
  have h4 : (l.set p v).take 4 = l.take 4 := by
    apply List.ext_getElem?
    intro i
    rw [List.getElem?_take, List.getElem?_take]
    by_cases hi : i < 4
    · rw [if_pos hi, if_pos hi, List.getElem?_set_ne (by omega)]
    · rw [if_neg hi, if_neg hi]
  rw [List.length_set, h4, rd_set l p v 4 (show 4 < p by omega), rd_set l p v 5 (show 5 < p by omega), rd_set l p v 6 (show 6 < p by omega), U_set l p v 16 2 (by omega), U_set l p v 18 2 (by omega)]
theorem table_set (l : List Int) (p : Nat) (v : Int) (hl : Bytes l) (hp : 64 ≤ p) (hz : (tableOf l).2 = 0) (hf : (p : Int) < U l 32 8 ∨ U l 32 8 + 56 * ((tableOf l).1.map head_Table.conv).length ≤ p) : tableOf (l.set p v) = tableOf l := by
  have he : headsFit (l.set p v) = headsFit l := by
    unfold headsFit
    rw [List.length_set, U_set l p v 52 2 (by omega), U_set l p v 54 2 (by omega), U_set l p v 56 2 (by omega), U_set l p v 32 8 (by omega)]
  unfold tableOf at hz hf ⊢
  rw [first_set l p v hp]
  by_cases c : (firstOf l).2 ≠ 0
  · rw [if_pos c] at hz
    exact absurd hz c
  rw [if_neg c] at hz hf
  rw [if_neg c, if_neg c]
  by_cases c2 : headsFit l
  case neg => rw [if_neg c2] at hz; exact absurd hz (by decide)
  rw [if_pos c2] at hf
  rw [if_pos c2, if_pos (he ▸ c2), U_set l p v 56 2 (by omega), U_set l p v 32 8 (by omega)]
  simp only [List.length_map, List.length_range] at hf
  have b := leVal_nonneg l hl 32 8
  congr 1
  apply List.map_congr_left
  intro i hi
  rw [List.mem_range] at hi
  unfold headAt
  have h0 := Int.toNat_of_nonneg b
  rw [U_set, U_set, U_set, U_set, U_set, U_set, U_set] <;> omega
/-- headers are read of the table, of the first bytes and of the length. -/
theorem parse_l0 : ∀ (k : Nat) (x y : List Int) (x7 x8 : Int) (x29 : List S32) (x30 x31 c0 : Int) (c1 : List S32) (c2 c3 c4 c5 c6 c7 c8 c9 c10 c11 c12 c13 c14 c15 : Int), x.length = y.length →
    head_Parse.l0 k x x7 x8 x29 x30 x31 c0 c1 c2 c3 c4 c5 c6 c7 c8 c9 c10 c11 c12 c13 c14 c15 = head_Parse.l0 k y x7 x8 x29 x30 x31 c0 c1 c2 c3 c4 c5 c6 c7 c8 c9 c10 c11 c12 c13 c14 c15 := by
  intro k
  induction k with
  | zero => intros; rfl
  | succ k ih =>
    intro x y x7 x8 x29 x30 x31 c0 c1 c2 c3 c4 c5 c6 c7 c8 c9 c10 c11 c12 c13 c14 c15 h
    simp only [head_Parse.l0, h, ih x y _ _ _ _ _ _ _ _ _ _ _ _ _ _ _ _ _ _ _ _ _ h]
theorem parse_eq (k : Nat) (x y : List Int) (hl : Bytes x) (hl' : Bytes y) (hlen : x.length ≤ 4611686018427387904) (h : x.length = y.length) (h1 : firstOf x = firstOf y) (h2 : tableOf x = tableOf y) : head_Parse.f k x = head_Parse.f k y := by
  have e1 : ∀ z : List Int, Bytes z → z.length ≤ 4611686018427387904 → head_Table.f z = some ((tableOf z).1.map head_Table.conv, (tableOf z).2) := fun z hz hn => by
    unfold head_Table.f
    rw [if_pos ⟨hz, hn⟩]
  have e2 : ∀ z : List Int, Bytes z → z.length ≤ 4611686018427387904 → head_first.f z = some (firstOf z) := fun z hz hn => by
    unfold head_first.f
    rw [if_pos ⟨hz, hn⟩]
  unfold head_Parse.f
  rw [e1 x hl hlen, e1 y hl' (h ▸ hlen), e2 x hl hlen, e2 y hl' (h ▸ hlen), h1, h2]
  simp only [Option.bind_some, parse_l0 k x y _ _ _ _ _ _ _ _ _ _ _ _ _ _ _ _ _ _ _ _ _ h]
theorem same_self (c0 c2 c3 c4 c5 c6 c7 c8 c9 c10 c11 c12 c13 c14 c15 : Int) (l : List S32) (hl : l.length ≤ 1000) : ∀ (d i k : Nat), l.length - i = d → i ≤ l.length → d < k →
    messuageref08_Same.l0 k i c0 l c2 c3 c4 c5 c6 c7 c8 c9 c10 c11 c12 c13 c14 c15 c0 l c2 c3 c4 c5 c6 c7 c8 c9 c10 c11 c12 c13 c14 c15 = some true := by
  intro d
  induction d with
  | zero =>
    intro i k hd hi hk
    obtain ⟨k, rfl⟩ : ∃ m, k = m + 1 := ⟨k - 1, by omega⟩
    simp only [messuageref08_Same.l0]
    rw [if_neg (by omega)]
  | succ d ih =>
    intro i k hd hi hk
    obtain ⟨k, rfl⟩ : ∃ m, k = m + 1 := ⟨k - 1, by omega⟩
    simp only [messuageref08_Same.l0]
    rw [if_pos (by omega), if_pos (by omega), if_pos (by omega)]
    simp only [BEq.rfl, Bool.not_true, Bool.or_false, Bool.false_eq_true, if_false]
    rw [w64i _ (by omega) (by omega)]
    exact ih (i + 1) k (by omega) (by omega) (by omega)
theorem same_f (k : Nat) (c0 c2 c3 c4 c5 c6 c7 c8 c9 c10 c11 c12 c13 c14 c15 : Int) (l : List S32) (hl : l.length ≤ 1000) (hk : l.length + 5 < k) :
    messuageref08_Same.f k c0 l c2 c3 c4 c5 c6 c7 c8 c9 c10 c11 c12 c13 c14 c15 c0 l c2 c3 c4 c5 c6 c7 c8 c9 c10 c11 c12 c13 c14 c15 = some true := by
  obtain ⟨k, rfl⟩ : ∃ m, k = m + 1 := ⟨k - 1, by omega⟩
  unfold messuageref08_Same.f
  rw [if_pos rfl]
  simp only [BEq.rfl, Bool.not_true, Bool.or_false, Bool.false_eq_true, if_false, bne_self_eq_false]
  simp only [messuageref08_Same.j0, Bool.false_eq_true, if_false]
  exact same_self c0 c2 c3 c4 c5 c6 c7 c8 c9 c10 c11 c12 c13 c14 c15 l hl l.length 0 k rfl (by omega) (by omega)
theorem xor_byte (x y : Int) : 0 ≤ Go.bits .xor .u8 x y ∧ Go.bits .xor .u8 x y ≤ 255 := by
  have hw : ∀ n : Int, IntKind.u8.wrap n = n % 256 := fun n => by simp [IntKind.wrap, IntKind.bits, IntKind.signed]
  unfold Go.bits
  simp only [hw]
  omega
theorem HeadOnly : messuagelaw08_HeadOnly.Pure := by
  intro l a1 a2 _ _ hw h1 h2
  have hl := bytes_of_wf hw
  unfold messuagelaw08_HeadOnly.f
  have yes : ∀ k, messuagelaw08_HeadOnly.j0 (k + 1) l a1 a2 true = some true := fun k => by simp [messuagelaw08_HeadOnly.j0]
  by_cases c : (l.length : Int) > 262144
  · exact ⟨1, by rw [if_pos c, yes]⟩
  by_cases c0 : (l.length : Int) = 0
  · exact ⟨1, by rw [if_neg c, show ((l.length : Int) == 0) = true by simpa using c0, yes]⟩
  have hlen : l.length ≤ 4611686018427387904 := by omega
  refine ⟨203, ?_⟩
  rw [if_neg c, show ((l.length : Int) == 0) = false by simpa using c0]
  simp only [messuagelaw08_HeadOnly.j0, Bool.false_eq_true, if_false]
  have ht : head_Table.f l = some ((tableOf l).1.map head_Table.conv, (tableOf l).2) := by
    unfold head_Table.f
    rw [if_pos ⟨hl, hlen⟩]
  rw [ht]
  simp only [Option.bind_some, messuagelaw08_alive.is]
  by_cases hz : (tableOf l).2 = 0
  case neg => rw [if_neg hz]
  rw [if_pos hz, if_neg c0]
  have h64 : 64 ≤ l.length := by
    have hz2 : (firstOf l).2 = 0 := by
      unfold tableOf at hz
      by_cases hc : (firstOf l).2 ≠ 0
      · rw [if_pos hc] at hz
        exact absurd hz hc
      · exact Decidable.not_not.1 hc
    unfold firstOf at hz2
    by_cases hc : l.length < 64 ∨ l.take 4 ≠ [127, 69, 76, 70]
    · rw [if_pos hc] at hz2
      exact absurd hz2 (by decide)
    · omega
  have q32 : messuageref08_N.f 202 l 32 8 = some (U l 32 8) := n_at l hl hlen 32 8 (by omega) (by omega) (by omega) (by omega) 202 (by omega)
  rw [q32]
  simp only [Option.bind_some]
  obtain ⟨p, hp, hpl⟩ : ∃ p : Nat, Int.tmod (wrap64 (Int.tmod a1 (l.length : Int) + (l.length : Int))) (l.length : Int) = p ∧ p < l.length := by
    have b := Int.tmod_lt_of_pos a1 (show 0 < (l.length : Int) by omega)
    have b2 : -(l.length : Int) < Int.tmod a1 (l.length : Int) := by
      have := Int.lt_tmod_of_pos a1 (show 0 < (l.length : Int) by omega)
      omega
    generalize Int.tmod a1 (l.length : Int) = z at *
    rw [w64i _ (by omega) (by omega), Int.tmod_eq_emod_of_nonneg (by omega)]
    have m1 := Int.emod_nonneg (z + (l.length : Int)) (show (l.length : Int) ≠ 0 by omega)
    have m2 := Int.emod_lt_of_pos (z + (l.length : Int)) (show 0 < (l.length : Int) by omega)
    exact ⟨((z + (l.length : Int)) % (l.length : Int)).toNat, by omega, by omega⟩
  rw [hp]
  clear hp
  have yes1 : messuagelaw08_HeadOnly.j1 202 l p a2 true = some true := by simp [messuagelaw08_HeadOnly.j1, messuagelaw08_alive.is]
  have hU0 := leVal_nonneg l hl 32 8
  by_cases g1 : (p : Int) < 64
  · rw [if_pos g1, yes1]
  rw [if_neg g1]
  have main : ((p : Int) < U l 32 8 ∨ U l 32 8 + 56 * ((tableOf l).1.map head_Table.conv).length ≤ p) → messuagelaw08_HeadOnly.j1 202 l p a2 false = some true := by
    intro hf
    have hts := table_set l p (Go.bits .xor .u8 (rd l p) a2) hl (by omega) hz hf
    have hfs := first_set l p (Go.bits .xor .u8 (rd l p) a2) (by omega)
    simp only [messuagelaw08_HeadOnly.j1, Bool.false_eq_true, if_false, Option.bind_some, List.nil_append, List.length_nil, messuagelaw08_alive.is]
    have hx := xor_byte (rd l p) a2
    have hl' : Bytes (l.set p (Go.bits .xor .u8 (rd l p) a2)) := by
      intro x hx'
      rcases List.mem_or_eq_of_mem_set hx' with h | h
      · exact hl x h
      · rw [h]; exact hx
    have hpe := parse_eq 201 (l.set p (Go.bits .xor .u8 (rd l p) a2)) l hl' hl (by rw [List.length_set]; exact hlen) (List.length_set ..) hfs hts
    obtain ⟨c0, c1, c2, c3, c4, c5, c6, c7, c8, c9, c10, c11, c12, c13, c14, c15, e, he, h16, -⟩ := parse_told l hl hlen 201 (by omega)
    rw [he] at hpe ⊢
    simp only [Option.bind_some]
    rw [if_pos (by omega), if_pos (by omega), if_pos (by omega), Int.toNat_natCast, hpe]
    simp only [Option.bind_some, if_true]
    rw [same_f 201 c0 c2 c3 c4 c5 c6 c7 c8 c9 c10 c11 c12 c13 c14 c15 c1 (by omega) (by omega)]
    rfl
  have tr := (table_rows l hl).1
  by_cases g2 : IntKind.u64.wrap (p : Int) ≥ U l 32 8
  · rw [if_pos g2]
    rw [w64 (p : Int) (by omega) (by omega)] at g2 ⊢
    rw [w64 _ (by omega) (by omega), w64 (((tableOf l).1.map head_Table.conv).length : Int) (by omega) (by omega), w64 _ (by omega) (by omega)]
    by_cases g3 : (p : Int) - U l 32 8 < 56 * (((tableOf l).1.map head_Table.conv).length : Int)
    · rw [show decide ((p : Int) - U l 32 8 < 56 * (((tableOf l).1.map head_Table.conv).length : Int)) = true from decide_eq_true g3, yes1]
    · rw [show decide ((p : Int) - U l 32 8 < 56 * (((tableOf l).1.map head_Table.conv).length : Int)) = false from decide_eq_false g3]
      exact main (.inr (by omega))
  · rw [if_neg g2]
    rw [w64 (p : Int) (by omega) (by omega)] at g2
    exact main (.inl (by omega))
end Go.Proofs.Ytlegpojjbeglhaa.Pure
