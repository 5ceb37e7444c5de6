/- What the program's and the document's functions read at a place: the number that stands there, or 0. No condition beyond those of each lemma. -/
import Derived.Test.YtmpahimeljbliaaBx1
import Derived.Test.YtmpahimeljbliaaZipIn
namespace Go.Proofs.Ytmpahimeljbliaa.ZipNumB
open Go.RowKit Go.Proofs.YtmpahimeljbliaaW.PrintWords Go.Proofs.Ytmpahimeljbliaa.B
open ZipPure (leVal leVal_snoc leVal_bound U U_bound Bytes numAt)

theorem or_join (n b : Int) (hn : 0 ≤ n) (hn2 : n < 72057594037927936) (hb : 0 ≤ b) (hb2 : b ≤ 255) : Go.bits .or .u64 (n * 256) b = n * 256 + b :=
  bits_join .u64 64 (by decide) (fun n h1 h2 => by rw [IntKind.wrap_u64]; omega) 8 (n * 256) b (by omega) (by omega) (by omega) hb (by omega) (by omega)
theorem pow_small : ∀ m : Nat, m ≤ 7 → (256 : Int) ^ m ≤ 72057594037927936 := by decide
theorem Bytes.at_ {l : List Int} (h : Bytes l) (i : Int) : 0 ≤ rd l i ∧ rd l i ≤ 255 := by
  unfold rd
  rw [List.getD_eq_getElem?_getD]
  cases hc : l[i.toNat]? with
  | none => simp
  | some x => exact h x (List.mem_of_getElem? hc)
theorem w64 (z : Int) (h0 : 0 ≤ z) (h1 : z < 18446744073709551616) : IntKind.u64.wrap z = z := by rw [IntKind.wrap_u64]; omega
theorem w64i (z : Int) (h0 : 0 ≤ z) (h1 : z ≤ 9223372036854775807) : wrap64 z = z := by unfold wrap64; omega
theorem rd_nat (l : List Int) (j : Nat) (h : j < l.length) : rd l j = l[j] := by
  unfold rd
  simp [h]
theorem take_rd (l : List Int) (a j : Nat) (h : a + j < l.length) : (l.drop a).take (j + 1) = (l.drop a).take j ++ [rd l ((a : Int) + j)] := by
  rw [List.take_succ_eq_append_getElem (by rw [List.length_drop]; omega)]
  congr 2
  rw [List.getElem_drop, show (a : Int) + j = ((a + j : Nat) : Int) by omega, rd_nat l (a + j) h]
theorem get_down (l : List Int) (hl : Bytes l) (a : Nat) (hlen : l.length ≤ 4611686018427387904) : ∀ (j k : Nat) (n : Int), a + j ≤ l.length → j ≤ 8 → 0 ≤ n → n < 256 ^ (8 - j) → j < k →
    le_get.l0 k l a n ((a : Int) + j - 1) = some (n * 256 ^ j + leVal ((l.drop a).take j), 0) := by
  intro j
  induction j with
  | zero =>
    intro k n h1 h2 h3 h4 h5
    obtain ⟨k, rfl⟩ : ∃ m, k = m + 1 := ⟨k - 1, by omega⟩
    simp only [le_get.l0]
    rw [w64i (a : Int) (by omega) (by omega), if_neg (by omega)]
    simp [leVal]
  | succ j ih =>
    intro k n h1 h2 h3 h4 h5
    obtain ⟨k, rfl⟩ : ∃ m, k = m + 1 := ⟨k - 1, by omega⟩
    simp only [le_get.l0]
    have e2 : (a : Int) + (j + 1 : Nat) - 1 = a + j := by omega
    rw [w64i (a : Int) (by omega) (by omega), e2, if_pos (by omega), if_pos (by omega), if_pos (by omega)]
    have hb := Bytes.at_ hl ((a : Int) + j)
    have hp : (256 : Int) ^ (8 - j) = 256 ^ (8 - (j + 1)) * 256 := by
      rw [← Int.pow_succ]; congr 1; omega
    have hp2 : (256 : Int) ^ (8 - (j + 1)) ≤ 72057594037927936 := pow_small _ (by omega)
    have hlt : ((l.drop a).take j).length = j := by rw [List.length_take, List.length_drop]; omega
    have e3 : wrap64 ((a : Int) + j - 1) = a + j - 1 := by unfold wrap64; omega
    rw [take_rd l a j (by omega), leVal_snoc, hlt, w64 (rd l ((a : Int) + j)) hb.1 (by omega), w64 (n * 256) (by omega) (by omega), or_join n _ h3 (by omega) hb.1 hb.2, e3, ih k _ (by omega) (by omega) (by omega) (by omega) (by omega), Int.pow_succ]
    congr 2
    grind
theorem inside_at (x y L : Int) (hx : 0 ≤ x) (hx2 : x < 18446744073709551616) (hy : 0 ≤ y) (hL : 0 ≤ L) (hL2 : L ≤ 4611686018427387904) : num_Inside.f x y 0 L = some (decide (x + y ≤ L)) := by
  unfold num_Inside.f num_Sub.f
  rw [if_neg (by omega), w64 (x - 0) (by omega) (by omega)]
  simp only [Option.bind_some, if_true, Int.sub_zero]
  by_cases h : x ≤ L
  · rw [if_pos h, w64 (L - x) (by omega) (by omega)]
    congr 1
    exact decide_eq_decide.2 ⟨fun _ => by omega, fun _ => by omega⟩
  · rw [if_neg h]
    congr 1
    exact (decide_eq_false (by omega)).symm
theorem get_at (l : List Int) (hl : Bytes l) (a n : Nat) (hlen : l.length ≤ 4611686018427387904) (ha : a < 9223372036854775807) (hn : n ≤ 8) (hn0 : 1 ≤ n) (k : Nat) (hk : n < k) : ∃ e, le_get.f k l a n = some (numAt l a n, e) := by
  have h1 := inside_at (a : Int) (n : Int) (l.length : Int) (by omega) (by omega) (by omega) (by omega) (by omega)
  unfold le_get.f
  rw [w64 (l.length : Int) (by omega) (by omega), h1]
  simp only [Option.bind_some]
  by_cases h : a + n ≤ l.length
  · rw [if_pos (decide_eq_true (by omega)), w64 ((a : Int) + n) (by omega) (by omega), w64 _ (by omega) (by omega), w64i _ (by omega) (by omega)]
    have h0 : (0 : Int) < 256 ^ (8 - n) := Int.pow_pos (by decide)
    rw [get_down l hl a hlen n k 0 h hn (by omega) h0 hk]
    refine ⟨0, ?_⟩
    unfold numAt
    rw [if_pos h]
    simp [U]
  · rw [if_neg (by simp; omega)]
    refine ⟨20, ?_⟩
    unfold numAt
    rw [if_neg h]
theorem wrap_u16 (n : Int) : IntKind.u16.wrap n = n % 65536 := by simp [IntKind.wrap, IntKind.bits, IntKind.signed]
theorem number2 (l : List Int) (hl : Bytes l) (a : Nat) (hlen : l.length ≤ 4611686018427387904) (ha : a < 9223372036854775807) (k : Nat) (hk : 8 < k) : zip_number.f k l a 2 = some (numAt l a 2) := by
  have hb := ZipPure.num_lt l hl a 2
  have hb0 := ZipPure.num_nonneg l hl a 2
  obtain ⟨e, hg⟩ := get_at l hl a 2 hlen ha (by omega) (by omega) k (by omega)
  rw [show ((2 : Nat) : Int) = 2 by rfl] at hg
  unfold zip_number.f le_U16.f
  rw [if_pos rfl, hg]
  simp only [Option.bind_some]
  rw [wrap_u16, Int.emod_eq_of_lt hb0 (by omega), w64 _ hb0 (by omega)]
theorem number4 (l : List Int) (hl : Bytes l) (a : Nat) (hlen : l.length ≤ 4611686018427387904) (ha : a < 9223372036854775807) (k : Nat) (hk : 8 < k) : zip_number.f k l a 4 = some (numAt l a 4) := by
  have hb := ZipPure.num_lt l hl a 4
  have hb0 := ZipPure.num_nonneg l hl a 4
  obtain ⟨e, hg⟩ := get_at l hl a 4 hlen ha (by omega) (by omega) k (by omega)
  rw [show ((4 : Nat) : Int) = 4 by rfl] at hg
  unfold zip_number.f le_U32.f
  rw [if_neg (by decide), hg]
  simp only [Option.bind_some]
  rw [Int.emod_eq_of_lt hb0 (by omega), w64 _ hb0 (by omega)]
end Go.Proofs.Ytmpahimeljbliaa.ZipNumB
