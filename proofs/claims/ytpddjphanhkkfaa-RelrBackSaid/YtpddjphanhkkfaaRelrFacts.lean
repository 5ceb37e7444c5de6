/- The document's reader of places comes to the plain function; two lists held against each other; the chapter's example. No condition. -/
import Derived.Test.YtpddjphanhkkfaaPx2
namespace Go.Proofs.Ytpddjphanhkkfaa.RelrFacts
open Go.RowKit Go.Proofs.Ytpddjphanhkkfaa.P Go.Proofs.Ytpddjphanhkkfaa.RelrPure Go.Proofs.Ytpddjphanhkkfaa.RelrIter Go.Proofs.Ytpddjphanhkkfaa.RelrEncPure Go.Proofs.YtpddjphanhkkfaaW.PrintWords Go.Proofs.YtpddjphanhkkfaaW.PrintLast

theorem alive_yes : messuagelaw13_alive.f = some true := by decide +kernel

theorem w64i (z : Int) (h0 : 0 ≤ z) (h1 : z ≤ 9223372036854775807) : wrap64 z = z := by unfold wrap64; omega

theorem same_from (l : List Int) (hlen : l.length ≤ 4611686018427387904) : ∀ (d i k : Nat), l.length - i = d → i ≤ l.length → d < k → messuageref13_Same.l0 k l l i = some true := by
  intro d
  induction d with
  | zero =>
    intro i k hd hi hk
    obtain ⟨k, rfl⟩ : ∃ m, k = m + 1 := ⟨k - 1, by omega⟩
    simp only [messuageref13_Same.l0]
    rw [if_neg (by omega)]
  | succ d ih =>
    intro i k hd hi hk
    obtain ⟨k, rfl⟩ : ∃ m, k = m + 1 := ⟨k - 1, by omega⟩
    simp only [messuageref13_Same.l0]
    rw [if_pos (by omega), if_pos (by omega), if_pos (by omega), if_pos trivial, w64i _ (by omega) (by omega)]
    exact ih (i + 1) k (by omega) (by omega) (by omega)
theorem same_self (l : List Int) (hlen : l.length ≤ 4611686018427387904) (k : Nat) (hk : l.length < k) : messuageref13_Same.f k l l = some true := by
  unfold messuageref13_Same.f
  rw [if_pos rfl]
  exact same_from l hlen l.length 0 k rfl (Nat.zero_le _) hk

theorem pow256 : ∀ j : Nat, j ≤ 8 → (256 : Int) ^ j ≤ 18446744073709551616 := by decide
theorem pow256_7 : ∀ j : Nat, j ≤ 7 → (256 : Int) ^ j ≤ 72057594037927936 := by decide
theorem pow256_pos (j : Nat) : (0 : Int) < 256 ^ j := Int.pow_pos (by decide)
theorem sum_bound (v b p : Int) (h0 : 0 ≤ v) (h1 : v < p) (hb : 0 ≤ b) (hb2 : b ≤ 255) (hp : p ≤ 72057594037927936) : 0 ≤ b * p ∧ b * p < 18446744073709551616 ∧ 0 ≤ v + b * p ∧ v + b * p < 18446744073709551616 := by
  have h2 : b * p ≤ 255 * p := Int.mul_le_mul_of_nonneg_right hb2 (by omega)
  have h3 : 0 ≤ b * p := Int.mul_nonneg hb (by omega)
  omega
theorem get_up (l : List Int) (hl : Bytes l) (at_ : Nat) (hlen : l.length ≤ 4611686018427387904) (h : at_ + 8 ≤ l.length) : ∀ (d j k : Nat), 8 - j = d → j ≤ 8 → d < k →
    messuageref02_Get.l0 k l at_ 8 (leVal ((l.drop at_).take j)) (IntKind.u64.wrap (256 ^ j)) j = some (leVal ((l.drop at_).take 8), 0) := by
  intro d
  induction d with
  | zero =>
    intro j k hd hj hk
    obtain ⟨k, rfl⟩ : ∃ m, k = m + 1 := ⟨k - 1, by omega⟩
    obtain rfl : j = 8 := by omega
    simp only [messuageref02_Get.l0]
    rw [if_neg (by omega)]
  | succ d ih =>
    intro j k hd hj hk
    obtain ⟨k, rfl⟩ : ∃ m, k = m + 1 := ⟨k - 1, by omega⟩
    have hj7 : j ≤ 7 := by omega
    simp only [messuageref02_Get.l0]
    rw [w64i (at_ : Int) (by omega) (by omega), w64i ((at_ : Int) + j) (by omega) (by omega), w64i ((j : Int) + 1) (by omega) (by omega)]
    rw [if_pos (by omega), if_pos (by omega), if_pos (by omega)]
    have hb := hl.at_ ((at_ : Int) + j)
    have hp := pow256_7 j hj7
    have hpp := pow256_pos j
    have hjd : j < (l.drop at_).length := by rw [List.length_drop]; omega
    have ht : (l.drop at_).take (j + 1) = (l.drop at_).take j ++ [rd l ((at_ : Int) + j)] := by
      rw [List.take_succ_eq_append_getElem hjd]
      congr 2
      unfold rd
      rw [List.getElem_drop, List.getD_eq_getElem?_getD, show ((at_ : Int) + j).toNat = at_ + j by omega, List.getElem?_eq_getElem (by rw [List.length_drop] at hjd; omega)]
      rfl
    have hlt : ((l.drop at_).take j).length = j := by rw [List.length_take]; omega
    have hv := leVal_bound ((l.drop at_).take j) (fun x hx => hl x (List.mem_of_mem_drop (List.mem_of_mem_take hx)))
    rw [hlt] at hv
    have hs := leVal_snoc ((l.drop at_).take j) (rd l ((at_ : Int) + j))
    rw [← ht, hlt] at hs
    rw [show (j : Int) + 1 = ((j + 1 : Nat) : Int) by omega, ← ih (j + 1) k (by omega) (by omega) (by omega), hs]
    generalize rd l ((at_ : Int) + j) = b at hb
    generalize leVal ((l.drop at_).take j) = v at hv
    have hq := Int.pow_succ (256 : Int) j
    generalize (256 : Int) ^ j = p at hp hpp hv hq
    rw [hq, w64 b hb.1 (by omega), w64 p (by omega) (by omega)]
    obtain ⟨s1, s2, s3, s4⟩ := sum_bound v b p hv.1 hv.2 hb.1 hb.2 hp
    rw [w64 (b * p) s1 s2, w64 (v + b * p) s3 s4, Int.mul_comm b p]
theorem n_at (l : List Int) (hl : Bytes l) (at_ : Nat) (hlen : l.length ≤ 4611686018427387904) (h : at_ + 8 ≤ l.length) (k : Nat) (hk : 10 ≤ k) : messuageref08_N.f k l at_ 8 = some (leVal ((l.drop at_).take 8)) := by
  obtain ⟨k, rfl⟩ : ∃ m, k = m + 1 := ⟨k - 1, by omega⟩
  have hg : messuageref02_Get.l0 k l at_ 8 0 1 0 = some (leVal ((l.drop at_).take 8), 0) := get_up l hl at_ hlen h 8 0 k rfl (by omega) (by omega)
  unfold messuageref08_N.f messuageref02_Get.f
  rw [w64 (l.length : Int) (by omega) (by omega), if_neg (by omega), w64i (at_ : Int) (by omega) (by omega), w64i ((l.length : Int) - at_) (by omega) (by omega)]
  simp only [messuageref02_Get.j0]
  rw [if_neg (by simp; omega), hg]
  rfl
theorem ref_add (a b : Int) (ha : 0 ≤ a) (ha2 : a < 18446744073709551616) (hb : 0 ≤ b) (hb2 : b < 18446744073709551616) : messuageref01_Add.f a b = if a + b ≥ 18446744073709551616 then some (0, false) else some (a + b, true) := by
  unfold messuageref01_Add.f messuageref01_Sum.f
  rw [IntKind.wrap_u64]
  by_cases h : a + b ≥ 18446744073709551616
  · rw [if_pos h, if_pos (by omega)]
    rfl
  · rw [if_neg h, if_neg (by omega)]
    simp
    omega

theorem half (n : Int) (j : Nat) (h0 : 0 ≤ n) (h1 : n < 18446744073709551616) : IntKind.u64.wrap (Int.tdiv (n / 2 ^ j) 2) = n / 2 ^ (j + 1) := by
  have hp : (0 : Int) < 2 ^ j := Int.pow_pos (by decide)
  have hq : 0 ≤ n / 2 ^ j := Int.ediv_nonneg h0 (by omega)
  have hs : (2 : Int) ^ j * 2 = 2 ^ (j + 1) := (Int.pow_succ _ _).symm
  rw [Int.tdiv_eq_ediv_of_nonneg hq, Int.ediv_ediv_of_nonneg (by omega), hs]
  have h2 : 0 ≤ n / 2 ^ (j + 1) := Int.ediv_nonneg h0 (Int.le_of_lt (Int.pow_pos (by decide)))
  have h3 : n / 2 ^ (j + 1) ≤ n := Int.ediv_le_self _ h0
  exact w64 _ h2 (by omega)
theorem bit_at (n : Int) (j : Nat) (h0 : 0 ≤ n) (h1 : n < 18446744073709551616) : Go.bits .and .u64 (n / 2 ^ (j + 1)) 1 = (n / 2 ^ (j + 1)) % 2 := by
  have h2 : 0 ≤ n / 2 ^ (j + 1) := Int.ediv_nonneg h0 (Int.le_of_lt (Int.pow_pos (by decide)))
  have h3 : n / 2 ^ (j + 1) ≤ n := Int.ediv_le_self _ h0
  exact and_one _ h2 (by omega)
theorem half_pos (n : Int) (j : Nat) (h0 : 0 ≤ n) : 0 ≤ n / 2 ^ (j + 1) := Int.ediv_nonneg h0 (Int.le_of_lt (Int.pow_pos (by decide)))

theorem l1_end (k : Nat) (l out : List Int) (frm x6 x7 x8 : Int) (j : Int) (hj : 63 ≤ j) : messuageref13_Decode.l1 (k + 1) l out frm x6 x7 x8 j = ((messuageref01_Add.f frm x8).bind fun bt => (if bt.2 = true then (if (out.length : Int) > 512 then (some (([] : List Int), 130)) else (messuageref13_Decode.l0 k l out bt.1 (wrap64 (x6 + 8)))) else (some (([] : List Int), 130)))) := by
  simp only [messuageref13_Decode.l1]
  rw [if_neg (by omega)]
theorem l1_step (k : Nat) (l out : List Int) (frm x6 x8 n : Int) (j : Nat) (hj : j < 63) (h0 : 0 ≤ n) (h1 : n < 18446744073709551616) (hlen : out.length < 17592186044416) : messuageref13_Decode.l1 (k + 1) l out frm x6 (n / 2 ^ j) x8 j =
    messuageref13_Decode.l1 k l (if Go.bits .and .u64 (n / 2 ^ (j + 1)) 1 = 1 then out ++ [IntKind.u64.wrap (frm + 8 * j)] else out) frm x6 (n / 2 ^ (j + 1)) x8 ((j + 1 : Nat) : Int) := by
  have e1 : IntKind.u64.wrap (8 * (j : Int)) = 8 * j := w64 _ (by omega) (by omega)
  have e2 : IntKind.u64.wrap ((j : Int) + 1) = ((j + 1 : Nat) : Int) := w64 _ (by omega) (by omega)
  simp only [messuageref13_Decode.l1]
  rw [if_pos (by omega), half n j h0 h1, bit_at n j h0 h1, Int.tmod_eq_emod_of_nonneg (half_pos n j h0), e1, e2]
  split <;> first | rfl | rw [if_pos hlen]
theorem l1_all (l out : List Int) (frm x6 x8 n : Int) (h0 : 0 ≤ n) (h1 : n < 18446744073709551616) (hlen : out.length < 17592186044000) : ∀ (d j k : Nat), 63 - j = d → j ≤ 63 →
    messuageref13_Decode.l1 (k + 1 + d) l (out ++ upto n frm j) frm x6 (n / 2 ^ j) x8 j = messuageref13_Decode.l1 (k + 1) l (out ++ upto n frm 63) frm x6 (n / 2 ^ 63) x8 63 := by
  intro d
  induction d with
  | zero =>
    intro j k hd hj
    obtain rfl : j = 63 := by omega
    rfl
  | succ d ih =>
    intro j k hd hj
    have hu := upto_len n frm j
    rw [show k + 1 + (d + 1) = (k + 1 + d) + 1 by omega, l1_step _ l _ frm x6 x8 n j (by omega) h0 h1 (by rw [List.length_append]; omega), ← ih (j + 1) k (by omega) (by omega), upto]
    split
    · rw [List.append_assoc]
    · rfl

theorem l1_done (l out : List Int) (frm x6 x8 n : Int) (h0 : 0 ≤ n) (h1 : n < 18446744073709551616) (hlen : out.length < 17592186044000) (k d : Nat) (hd : d = 63) :
    messuageref13_Decode.l1 (k + 1 + d) l out frm x6 n x8 0 = ((messuageref01_Add.f frm x8).bind fun bt => (if bt.2 = true then (if ((out ++ upto n frm 63).length : Int) > 512 then (some (([] : List Int), 130)) else (messuageref13_Decode.l0 k l (out ++ upto n frm 63) bt.1 (wrap64 (x6 + 8)))) else (some (([] : List Int), 130)))) := by
  have h := l1_all l out frm x6 x8 n h0 h1 hlen d 0 k (by omega) (by omega)
  have e : out ++ upto n frm 0 = out := List.append_nil out
  have e2 : n / 2 ^ 0 = n := by simp
  rw [e, e2] at h
  rw [← l1_end k l (out ++ upto n frm 63) frm x6 (n / 2 ^ 63) x8 63 (by omega)]
  exact h

set_option maxHeartbeats 1000000 in
theorem ref_dec (l : List Int) (hl : Bytes l) (hlen : l.length ≤ 4096) (h8 : l.length % 8 = 0) : ∀ (d p k : Nat) (out : List Int) (frm : Int), (l.length - p) / 8 = d → p ≤ l.length → p % 8 = 0 → 70 * d + 80 ≤ k → 0 ≤ frm → frm < 18446744073709551616 → out.length ≤ 512 →
    messuageref13_Decode.l0 k l out frm p = some (dec ((words l).drop (p / 8)) out frm (decide (out ≠ []))) := by
  intro d
  induction d with
  | zero =>
    intro p k out frm hd hp hp8 hk hf0 hf1 hout
    obtain ⟨k, rfl⟩ : ∃ m, k = m + 1 := ⟨k - 1, by omega⟩
    simp only [messuageref13_Decode.l0]
    rw [if_neg (by omega), words_all l (p / 8) (by omega)]
    rfl
  | succ d ih =>
    intro p k out frm hd hp hp8 hk hf0 hf1 hout
    have hpl : p + 8 ≤ l.length := by omega
    obtain ⟨q, hq⟩ : ∃ q : Nat, q = 63 := ⟨_, rfl⟩
    obtain ⟨k, rfl⟩ : ∃ m, k = (m + 1 + q) + 1 + 1 := ⟨k - 66, by omega⟩
    have hn : messuageref08_N.f (k + 1 + q + 1) l p 8 = some (leVal ((l.drop p).take 8)) := n_at l hl p (by omega) hpl _ (by omega)
    have hwd := words_drop l (p / 8) (by omega)
    have hwb := word_bound l hl (p / 8) (by omega)
    unfold word at hwd hwb
    rw [show 8 * (p / 8) = p by omega] at hwd hwb
    simp only [messuageref13_Decode.l0]
    rw [if_pos (by omega), w64 (p : Int) (by omega) (by omega), hn, hwd]
    simp only [Option.bind_some]
    generalize leVal ((l.drop p).take 8) = n at hwb
    obtain ⟨hn0, hn1⟩ := hwb
    have hnext : ∀ (kk : Nat) (out' : List Int) (frm' : Int), k ≤ kk → 0 ≤ frm' → frm' < 18446744073709551616 → out'.length ≤ 512 → messuageref13_Decode.l0 kk l out' frm' (wrap64 ((p : Int) + 8)) = some (dec ((words l).drop (p / 8 + 1)) out' frm' (decide (out' ≠ []))) := by
      intro kk out' frm' hkk g0 g1 g2
      have := ih (p + 8) kk out' frm' (by omega) (by omega) (by omega) (by omega) g0 g1 g2
      rw [show (p + 8) / 8 = p / 8 + 1 by omega] at this
      rw [w64i ((p : Int) + 8) (by omega) (by omega), ← this]
      rfl
    rw [Int.tmod_eq_emod_of_nonneg hn0, dec]
    by_cases he : n % 2 = 0
    · rw [if_pos he, if_pos (by omega), if_pos he]
      simp only [messuageref13_Decode.j2]
      have hne : ((out ++ [n]).length : Int) ≠ 0 := by simp; omega
      rw [if_neg hne, Int.tmod_eq_emod_of_nonneg hn0, if_neg (by omega), ref_add n 8 hn0 hn1 (by omega) (by omega)]
      by_cases ho : n + 8 ≥ 18446744073709551616
      · rw [if_pos ho, if_pos (by omega)]
        rfl
      · rw [if_neg ho, if_neg (by omega)]
        simp only [Option.bind_some, if_true]
        rw [List.length_append, List.length_singleton]
        by_cases hl5 : out.length + 1 > 512
        · rw [if_pos (by omega), if_pos hl5]
        · rw [if_neg (by omega), if_neg hl5, hnext _ _ _ (by omega) (by omega) (by omega) (by rw [List.length_append, List.length_singleton]; omega)]
          simp
    · rw [if_neg he, if_neg he]
      simp only [messuageref13_Decode.j2]
      by_cases hz : out = []
      · subst hz
        rw [if_pos (by simp)]
        simp
      · have hz' : (out.length : Int) ≠ 0 := by
          have := List.length_pos_iff.2 hz
          omega
        rw [if_neg hz', Int.tmod_eq_emod_of_nonneg hn0, if_pos (by omega)]
        have hd1 : decide (out ≠ []) = true := by simp [hz]
        rw [hd1, if_pos rfl]
        rw [l1_done l out frm p 504 n hn0 hn1 (by omega) k q hq, ref_add frm 504 hf0 hf1 (by omega) (by omega)]
        by_cases ho : frm + 504 ≥ 18446744073709551616
        · rw [if_pos ho, if_pos (by omega)]
          rfl
        · rw [if_neg ho, if_neg (by omega)]
          simp only [Option.bind_some, if_true]
          by_cases hl5 : (out ++ upto n frm 63).length > 512
          · rw [if_pos (by omega), if_pos hl5]
          · rw [if_neg (by omega), if_neg hl5, hnext _ _ _ (by omega) (by omega) (by omega) (by omega)]
            have hd2 : decide (out ++ upto n frm 63 ≠ []) = true := by simp [hz]
            rw [hd2]

theorem ref_decode (l : List Int) (hl : Bytes l) (hlen : l.length ≤ 4611686018427387904) (k : Nat) (hk : 70 * l.length + 100 ≤ k) : messuageref13_Decode.f k l = some (RelrPure.decode l) := by
  obtain ⟨k, rfl⟩ : ∃ m, k = m + 1 := ⟨k - 1, by omega⟩
  unfold messuageref13_Decode.f RelrPure.decode
  by_cases h8 : l.length % 8 = 0
  · rw [if_pos (by omega)]
    simp only [messuageref13_Decode.j0]
    by_cases h4 : l.length > 4096
    · rw [if_pos (by simp; omega), if_pos (.inr h4)]
    · rw [if_neg (by simp; omega), if_neg (by omega)]
      have := ref_dec l hl (by omega) h8 (l.length / 8) 0 k [] 0 (by omega) (by omega) (by omega) (by omega) (by omega) (by omega) (by simp)
      simpa using this
  · rw [if_neg (by omega)]
    simp only [messuageref13_Decode.j0]
    rw [if_pos trivial, if_pos (.inl h8)]

theorem dec_len : ∀ (ws out : List Int) (frm : Int) (any : Bool), out.length ≤ 512 → (dec ws out frm any).1.length ≤ 512
  | [], out, frm, any, h => h
  | n :: ws, out, frm, any, h => by
    rw [dec]
    split
    · split
      · simp
      · split
        · simp
        · exact dec_len ws _ _ _ (by rw [List.length_append, List.length_singleton]; omega)
    · split
      · split
        · simp
        · split
          · simp
          · exact dec_len ws _ _ _ (by omega)
      · simp
theorem decode_len (l : List Int) : (RelrPure.decode l).1.length ≤ 512 := by
  unfold RelrPure.decode
  split
  · simp
  · exact dec_len _ _ _ _ (by simp)
theorem bytes_of {l : List Int} (h : ∀ x ∈ l, (Lit.int .u8 x).wf = true) : Bytes l := fun x hx => by
  have := h x hx
  simpa [Lit.wf, IntKind.min, IntKind.max, IntKind.bits, IntKind.signed] using this
theorem words_of {l : List Int} (h : ∀ x ∈ l, (Lit.int .u64 x).wf = true) : RelrEncPure.Words l := fun x hx => by
  have := h x hx
  have h2 : 0 ≤ x ∧ x ≤ 18446744073709551615 := by simpa [Lit.wf, IntKind.min, IntKind.max, IntKind.bits, IntKind.signed] using this
  omega
theorem decode_f {l : List Int} (h : Bytes l) : relr_Decode.f l = some (RelrPure.decode l) := by
  unfold relr_Decode.f
  exact if_pos h
theorem encode_f {l : List Int} (h : RelrEncPure.Words l) : relr_Encode.f l = some (RelrEncPure.encode l) := by
  unfold relr_Encode.f
  exact if_pos h
end Go.Proofs.Ytpddjphanhkkfaa.RelrFacts
