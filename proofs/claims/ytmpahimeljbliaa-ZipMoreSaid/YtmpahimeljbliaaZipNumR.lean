/- What the document's functions read at a place. No condition beyond those of each lemma. -/
import Derived.Test.YtmpahimeljbliaaZipNumB
namespace Go.Proofs.Ytmpahimeljbliaa.ZipNumB
open Go.RowKit Go.Proofs.YtmpahimeljbliaaW.PrintWords Go.Proofs.Ytmpahimeljbliaa.B
open ZipPure (leVal leVal_snoc leVal_bound U U_bound Bytes numAt)

theorem leVal_cons_drop (l : List Int) (a n j : Nat) (h : a + n ≤ l.length) (hj : j < n) : ((l.drop (a + j)).take (n - j)) = rd l ((a + j : Nat) : Int) :: ((l.drop (a + (j + 1))).take (n - (j + 1))) := by
  rw [List.drop_eq_getElem_cons (by omega), show n - j = (n - (j + 1)) + 1 by omega, List.take_succ_cons, rd_nat l (a + j) (by omega)]
  rfl
theorem get_up (l : List Int) (hl : Bytes l) (a n : Nat) (hlen : l.length ≤ 4611686018427387904) (h : a + n ≤ l.length) (hn : n ≤ 7) : ∀ (d j k : Nat) (x m : Int), j + d = n → d < k → m = 256 ^ j → 0 ≤ x → x < 256 ^ j →
    messuageref02_Get.l0 k l a n x m j = some (x + m * leVal ((l.drop (a + j)).take (n - j)), 0)
  | 0, j, k, x, m, hj, hk, hm, h0, h1 => by
    obtain ⟨k, rfl⟩ : ∃ m, k = m + 1 := ⟨k - 1, by omega⟩
    rw [messuageref02_Get.l0, if_neg (by omega), show n - j = 0 by omega, List.take_zero, leVal, Int.mul_zero, Int.add_zero]
  | d + 1, j, k, x, m, hj, hk, hm, h0, h1 => by
    obtain ⟨k, rfl⟩ : ∃ m, k = m + 1 := ⟨k - 1, by omega⟩
    have hb := Bytes.at_ hl ((a + j : Nat) : Int)
    have hp : (256 : Int) ^ j ≤ 281474976710656 := by
      have : ∀ q : Nat, q ≤ 6 → (256 : Int) ^ q ≤ 281474976710656 := by decide
      exact this j (by omega)
    have hp0 : (0 : Int) < 256 ^ j := Int.pow_pos (by decide)
    have hmul : rd l ((a + j : Nat) : Int) * m ≤ 255 * m := Int.mul_le_mul_of_nonneg_right hb.2 (by omega)
    have hmul0 : 0 ≤ rd l ((a + j : Nat) : Int) * m := Int.mul_nonneg hb.1 (by omega)
    have ih := get_up l hl a n hlen h hn d (j + 1) k (x + rd l ((a + j : Nat) : Int) * m) (m * 256) (by omega) (by omega) (by rw [hm, Int.pow_succ]) (by omega) (by rw [Int.pow_succ]; omega)
    have c1 : (j : Int) < (n : Int) := by omega
    have c2 : (0 : Int) ≤ ((a + j : Nat) : Int) := by omega
    have c3 : ((a + j : Nat) : Int) < (l.length : Int) := by omega
    have w1 := w64 (rd l ((a + j : Nat) : Int)) hb.1 (by omega)
    have w2 := w64 (rd l ((a + j : Nat) : Int) * m) hmul0 (by omega)
    have w3 := w64 (x + rd l ((a + j : Nat) : Int) * m) (by omega) (by omega)
    have w4 := w64 (m * 256) (by omega) (by omega)
    have c4 : j < n := by omega
    have e1 : wrap64 (wrap64 (a : Int) + (j : Int)) = ((a + j : Nat) : Int) := by
      rw [w64i (a : Int) (by omega) (by omega), w64i _ (by omega) (by omega)]
      omega
    have e2 : wrap64 ((j : Int) + 1) = ((j + 1 : Nat) : Int) := by rw [w64i _ (by omega) (by omega)]; omega
    rw [messuageref02_Get.l0, if_pos c1, e1, if_pos c2, if_pos c3, w1, w2, w3, w4, e2, ih, leVal_cons_drop l a n j h c4, leVal]
    clear e1 e2 w1 w2 w3 w4 ih
    congr 2
    grind
theorem ref_n (l : List Int) (hl : Bytes l) (a n : Nat) (hlen : l.length ≤ 4611686018427387904) (ha : a < 9223372036854775807) (hn : n ≤ 7) (k : Nat) (hk : n + 2 < k) : messuageref07_n.f k l a n = some (numAt l a n) := by
  obtain ⟨k, rfl⟩ : ∃ m, k = m + 1 := ⟨k - 1, by omega⟩
  unfold messuageref07_n.f messuageref02_Get.f
  rw [w64 (l.length : Int) (by omega) (by omega)]
  unfold numAt
  by_cases h1 : (a : Int) > (l.length : Int)
  · rw [if_pos h1, messuageref02_Get.j0, if_pos rfl, if_neg (by omega)]
    rfl
  · rw [if_neg h1, w64i (a : Int) (by omega) (by omega), w64i _ (by omega) (by omega), messuageref02_Get.j0]
    by_cases h2 : a + n ≤ l.length
    · rw [if_neg (by simp; omega), if_pos h2]
      have := get_up l hl a n hlen h2 hn n 0 k 0 1 (by omega) (by omega) rfl (by omega) (by decide)
      simp only [Int.zero_add, Int.one_mul, Nat.add_zero, Nat.sub_zero] at this
      rw [show ((0 : Nat) : Int) = 0 from rfl] at this
      rw [this]
      rfl
    · rw [if_pos (decide_eq_true (by omega)), if_neg h2]
      rfl
theorem w64' (z : Int) (h0 : -9223372036854775808 ≤ z) (h1 : z ≤ 9223372036854775807) : wrap64 z = z := by unfold wrap64; omega
end Go.Proofs.Ytmpahimeljbliaa.ZipNumB
