/- The document's table of program headers comes to the plain function; two lists held against each other. No condition. -/
import Derived.Test.YtlegpojjbeglhaaPx3
namespace Go.Proofs.Ytlegpojjbeglhaa.HeadFacts
open Go.RowKit Go.Proofs.Ytlegpojjbeglhaa.P Go.Proofs.Ytlegpojjbeglhaa.HeadPure Go.Proofs.YtlegpojjbeglhaaW.PrintWords Go.Proofs.YtlegpojjbeglhaaW.PrintLast

theorem bytes_of_wf {l : List Int} (h : ∀ x ∈ l, (Lit.int .u8 x).wf = true) : Bytes l := fun x hx => by
  have := h x hx
  have h2 : IntKind.u8.min = 0 := by decide
  have h3 : IntKind.u8.max = 255 := by decide
  simp [Lit.wf, h2, h3] at this
  omega
theorem leVal_nonneg (l : List Int) (hl : Bytes l) (a n : Nat) : 0 ≤ U l a n :=
  (leVal_bound _ (fun x hx => hl x (List.mem_of_mem_drop (List.mem_of_mem_take hx)))).1
theorem pow256 : ∀ j : Nat, j ≤ 8 → (256 : Int) ^ j ≤ 18446744073709551616 := by decide
theorem pow256_7 : ∀ j : Nat, j ≤ 7 → (256 : Int) ^ j ≤ 72057594037927936 := by decide
theorem pow256_pos (j : Nat) : (0 : Int) < 256 ^ j := Int.pow_pos (by decide)
theorem sum_bound (v b p : Int) (h0 : 0 ≤ v) (h1 : v < p) (hb : 0 ≤ b) (hb2 : b ≤ 255) (hp : p ≤ 72057594037927936) : 0 ≤ b * p ∧ b * p < 18446744073709551616 ∧ 0 ≤ v + b * p ∧ v + b * p < 18446744073709551616 := by
  have h2 : b * p ≤ 255 * p := Int.mul_le_mul_of_nonneg_right hb2 (by omega)
  have h3 : 0 ≤ b * p := Int.mul_nonneg hb (by omega)
  omega
theorem get_up (l : List Int) (hl : Bytes l) (a n : Nat) (hn : n ≤ 8) (hlen : l.length ≤ 4611686018427387904) (h : a + n ≤ l.length) : ∀ (d j k : Nat), n - j = d → j ≤ n → d < k →
    messuageref02_Get.l0 k l a n (leVal ((l.drop a).take j)) (IntKind.u64.wrap (256 ^ j)) j = some (leVal ((l.drop a).take n), 0) := by
  intro d
  induction d with
  | zero =>
    intro j k hd hj hk
    obtain ⟨k, rfl⟩ : ∃ m, k = m + 1 := ⟨k - 1, by omega⟩
    obtain rfl : j = n := by omega
    simp only [messuageref02_Get.l0]
    rw [if_neg (by omega)]
  | succ d ih =>
    intro j k hd hj hk
    obtain ⟨k, rfl⟩ : ∃ m, k = m + 1 := ⟨k - 1, by omega⟩
    have hj7 : j ≤ 7 := by omega
    simp only [messuageref02_Get.l0]
    rw [w64i (a : Int) (by omega) (by omega), w64i ((a : Int) + j) (by omega) (by omega), w64i ((j : Int) + 1) (by omega) (by omega)]
    rw [if_pos (by omega), if_pos (by omega), if_pos (by omega)]
    have hb := hl.at_ ((a : Int) + j)
    have hp := pow256_7 j hj7
    have hpp := pow256_pos j
    have ht := take_rd l a j (by omega)
    have hlt : ((l.drop a).take j).length = j := by rw [List.length_take, List.length_drop]; omega
    have hv := leVal_bound ((l.drop a).take j) (fun x hx => hl x (List.mem_of_mem_drop (List.mem_of_mem_take hx)))
    rw [hlt] at hv
    have hs := leVal_snoc ((l.drop a).take j) (rd l ((a : Int) + j))
    rw [← ht, hlt] at hs
    rw [show (j : Int) + 1 = ((j + 1 : Nat) : Int) by omega, ← ih (j + 1) k (by omega) (by omega) (by omega), hs]
    generalize rd l ((a : Int) + j) = b at hb
    generalize leVal ((l.drop a).take j) = v at hv
    have hsb := sum_bound v b (256 ^ j) hv.1 hv.2 hb.1 hb.2 hp
    rw [w64 b hb.1 (by omega), w64 (256 ^ j) (by omega) (by omega), w64 (b * 256 ^ j) hsb.1 hsb.2.1, w64 (v + b * 256 ^ j) hsb.2.2.1 hsb.2.2.2, Int.pow_succ]
    congr 2
    exact Int.mul_comm _ _
theorem n_at (l : List Int) (hl : Bytes l) (hlen : l.length ≤ 4611686018427387904) (a n : Int) (ha : 0 ≤ a) (hn0 : 0 ≤ n) (hn : n ≤ 8) (h : a + n ≤ l.length) (k : Nat) (hk : 9 < k) : messuageref08_N.f k l a n = some (U l a.toNat n.toNat) := by
  obtain ⟨k, rfl⟩ : ∃ m, k = m + 1 := ⟨k - 1, by omega⟩
  obtain ⟨a, rfl⟩ : ∃ m : Nat, a = m := ⟨a.toNat, by omega⟩
  obtain ⟨n, rfl⟩ : ∃ m : Nat, n = m := ⟨n.toNat, by omega⟩
  unfold messuageref08_N.f messuageref02_Get.f
  rw [w64 (l.length : Int) (by omega) (by omega), if_neg (by omega), w64i (a : Int) (by omega) (by omega), w64i _ (by omega) (by omega)]
  rw [show decide ((l.length : Int) - (a : Int) < n) = false from decide_eq_false (by omega)]
  simp only [messuageref02_Get.j0, Bool.false_eq_true, if_false]
  have := get_up l hl a n (by omega) hlen (by omega) n 0 k (by omega) (by omega) (by omega)
  rw [show IntKind.u64.wrap (256 ^ 0) = 1 by rfl] at this
  simp only [List.take_zero, leVal] at this
  rw [show ((0 : Nat) : Int) = 0 by rfl] at this
  rw [this]
  rfl
theorem inside_at (x y len : Int) (hx : 0 ≤ x) (hx2 : x < 18446744073709551616) (hy : 0 ≤ y) (hy2 : y ≤ 4611686018427387904) (hl : 0 ≤ len) (hl2 : len ≤ 4611686018427387904) : messuageref01_Inside.f x y 0 len = some (decide (x + y ≤ len)) := by
  unfold messuageref01_Inside.f messuageref01_Sum.f messuageref01_Less.f
  rw [if_pos (by omega)]
  rw [IntKind.wrap_u64, IntKind.wrap_u64]
  by_cases h : (x + y) % 18446744073709551616 < x
  · rw [if_pos h, if_neg (by omega)]
    simp
    omega
  · rw [if_neg h, if_neg (by omega)]
    simp
    by_cases h2 : x + y ≤ len
    · simp [h2]; omega
    · simp [h2]; omega
theorem conv_eq (l : List Int) (a : Nat) : head_Table.conv (headAt l a) = ⟨U l a 4, U l (a + 4) 4, U l (a + 8) 8, U l (a + 16) 8, U l (a + 32) 8, U l (a + 40) 8, U l (a + 48) 8⟩ := rfl
/-- The table's rows. -/
def rows (l : List Int) (off n : Nat) : List S32 := (List.range n).map fun i => head_Table.conv (headAt l (off + 56 * i))
theorem rows_succ (l : List Int) (off n : Nat) : rows l off (n + 1) = rows l off n ++ [head_Table.conv (headAt l (off + 56 * n))] := by
  unfold rows
  rw [List.range_succ, List.map_append]
  rfl
theorem l0_at (l : List Int) (hl : Bytes l) (hlen : l.length ≤ 4611686018427387904) (off n : Nat) (hn : n ≤ 16) (h : off + n * 56 ≤ l.length) : ∀ (d i k : Nat), n - i = d → i ≤ n → d + 10 < k →
    messuageref08_Table.l0 k l off n (rows l off i) i = some (rows l off n, 0) := by
  intro d
  induction d with
  | zero =>
    intro i k hd hi hk
    obtain ⟨k, rfl⟩ : ∃ m, k = m + 1 := ⟨k - 1, by omega⟩
    obtain rfl : i = n := by omega
    simp only [messuageref08_Table.l0]
    rw [if_neg (by omega)]
  | succ d ih =>
    intro i k hd hi hk
    obtain ⟨k, rfl⟩ : ∃ m, k = m + 1 := ⟨k - 1, by omega⟩
    simp only [messuageref08_Table.l0]
    rw [if_pos (by omega), w64 ((i : Int) * 56) (by omega) (by omega), w64 ((off : Int) + (i : Int) * 56) (by omega) (by omega)]
    have he : (off : Int) + (i : Int) * 56 = ((off + 56 * i : Nat) : Int) := by omega
    rw [he]
    have hb : off + 56 * i + 56 ≤ l.length := by omega
    generalize hg : off + 56 * i = a at hb
    have q0 := n_at l hl hlen (a : Int) 4 (by omega) (by omega) (by omega) (by omega) k (by omega)
    have q1 := n_at l hl hlen (((a + 4 : Nat) : Int)) 4 (by omega) (by omega) (by omega) (by omega) k (by omega)
    have q2 := n_at l hl hlen (((a + 8 : Nat) : Int)) 8 (by omega) (by omega) (by omega) (by omega) k (by omega)
    have q3 := n_at l hl hlen (((a + 16 : Nat) : Int)) 8 (by omega) (by omega) (by omega) (by omega) k (by omega)
    have q4 := n_at l hl hlen (((a + 32 : Nat) : Int)) 8 (by omega) (by omega) (by omega) (by omega) k (by omega)
    have q5 := n_at l hl hlen (((a + 40 : Nat) : Int)) 8 (by omega) (by omega) (by omega) (by omega) k (by omega)
    have q6 := n_at l hl hlen (((a + 48 : Nat) : Int)) 8 (by omega) (by omega) (by omega) (by omega) k (by omega)
    have s : ∀ c : Int, 0 ≤ c → c ≤ 48 → IntKind.u64.wrap ((a : Int) + c) = (a : Int) + c := fun c h0 h1 => w64 _ (by omega) (by omega)
    rw [s 4 (by omega) (by omega), s 8 (by omega) (by omega), s 16 (by omega) (by omega), s 32 (by omega) (by omega), s 40 (by omega) (by omega), s 48 (by omega) (by omega)]
    rw [show (a : Int) + 4 = ((a + 4 : Nat) : Int) by omega, show (a : Int) + 8 = ((a + 8 : Nat) : Int) by omega, show (a : Int) + 16 = ((a + 16 : Nat) : Int) by omega, show (a : Int) + 32 = ((a + 32 : Nat) : Int) by omega, show (a : Int) + 40 = ((a + 40 : Nat) : Int) by omega, show (a : Int) + 48 = ((a + 48 : Nat) : Int) by omega]
    rw [q0, q1, q2, q3, q4, q5, q6]
    simp only [Option.bind_some, Int.toNat_natCast]
    have hr : (rows l off i).length = i := by simp [rows]
    rw [if_pos (by rw [hr]; omega), w64 ((i : Int) + 1) (by omega) (by omega)]
    have b0 := U_bound l hl a 4 (by omega)
    have b1 := U_bound l hl (a + 4) 4 (by omega)
    have e4 : (4 : Int).toNat = 4 := rfl
    have e8 : (8 : Int).toNat = 8 := rfl
    rw [e4, e8, Int.emod_eq_of_lt b0.1 (by omega), Int.emod_eq_of_lt b1.1 (by omega)]
    have := ih (i + 1) k (by omega) (by omega) (by omega)
    rw [rows_succ, hg, conv_eq] at this
    exact this

theorem take4 (l : List Int) (h : 64 ≤ l.length) : l.take 4 = [rd l 0, rd l 1, rd l 2, rd l 3] := by
  rcases l with _ | ⟨a, _ | ⟨b, _ | ⟨c, _ | ⟨d, l⟩⟩⟩⟩
  all_goals first | (simp at h; done) | rfl

theorem j2_at (l : List Int) (hl : Bytes l) (hlen : l.length ≤ 4611686018427387904) (h : 64 ≤ l.length) (k : Nat) (hk : 40 ≤ k) :
    messuageref08_Table.j2 k l false = some (if headsFit l then (rows l (U l 32 8).toNat (U l 56 2).toNat, 0) else ([], 84)) := by
  obtain ⟨k, rfl⟩ : ∃ m, k = m + 1 := ⟨k - 1, by omega⟩
  obtain ⟨m, hm⟩ : ∃ m, k = m + 1 := ⟨k - 1, by omega⟩
  have bad : ∀ x y, messuageref08_Table.j3 k l x y true = some ([], 84) := by
    intro x y
    rw [hm]
    simp [messuageref08_Table.j3]
  have good : ∀ x y, messuageref08_Table.j3 k l x y false = messuageref08_Table.l0 m l x y [] 0 := by
    intro x y
    rw [hm]
    simp [messuageref08_Table.j3]
  have q32 : messuageref08_N.f k l 32 8 = some (U l 32 8) := n_at l hl hlen 32 8 (by omega) (by omega) (by omega) (by omega) k (by omega)
  have q56 : messuageref08_N.f k l 56 2 = some (U l 56 2) := n_at l hl hlen 56 2 (by omega) (by omega) (by omega) (by omega) k (by omega)
  have q52 : messuageref08_N.f k l 52 2 = some (U l 52 2) := n_at l hl hlen 52 2 (by omega) (by omega) (by omega) (by omega) k (by omega)
  have q54 : messuageref08_N.f k l 54 2 = some (U l 54 2) := n_at l hl hlen 54 2 (by omega) (by omega) (by omega) (by omega) k (by omega)
  simp only [messuageref08_Table.j2, Bool.false_eq_true, if_false]
  rw [q32, q56, q52]
  simp only [Option.bind_some]
  by_cases c1 : U l 52 2 = 64
  · rw [if_pos c1, q54]
    simp only [Option.bind_some]
    by_cases c2 : U l 54 2 = 56
    · rw [if_pos c2]
      by_cases c3 : U l 56 2 < 1
      · rw [if_pos c3, bad, if_neg (by unfold headsFit; omega)]
      · rw [if_neg c3]
        by_cases c4 : U l 56 2 > 16
        · rw [if_pos c4, bad, if_neg (by unfold headsFit; omega)]
        · rw [if_neg c4]
          have b := U_bound l hl 32 8 (by omega)
          have b' : U l 32 8 < 18446744073709551616 := b.2
          rw [w64 (U l 56 2 * 56) (by omega) (by omega), w64 (l.length : Int) (by omega) (by omega), inside_at _ _ _ b.1 b' (by omega) (by omega) (by omega) (by omega)]
          simp only [Option.bind_some]
          by_cases c5 : U l 32 8 + U l 56 2 * 56 ≤ l.length
          · rw [show (!decide (U l 32 8 + U l 56 2 * 56 ≤ (l.length : Int))) = false by simp [c5], good, if_pos (show headsFit l from ⟨c1, c2, by omega, by omega, c5⟩)]
            have := l0_at l hl hlen (U l 32 8).toNat (U l 56 2).toNat (by omega) (by omega) (U l 56 2).toNat 0 m (by omega) (by omega) (by omega)
            rw [Int.toNat_of_nonneg b.1, Int.toNat_of_nonneg (by omega)] at this
            exact this
          · rw [show (!decide (U l 32 8 + U l 56 2 * 56 ≤ (l.length : Int))) = true by simp [c5], bad, if_neg (by unfold headsFit; omega)]
    · rw [if_neg c2, bad, if_neg (by unfold headsFit; omega)]
  · rw [if_neg c1, bad, if_neg (by unfold headsFit; omega)]
theorem table_ref (l : List Int) (hl : Bytes l) (hlen : l.length ≤ 4611686018427387904) (k : Nat) (hk : 50 ≤ k) :
    messuageref08_Table.f k l = some ((tableOf l).1.map head_Table.conv, (tableOf l).2) := by
  obtain ⟨k1, rfl⟩ : ∃ m, k = m + 1 := ⟨k - 1, by omega⟩
  obtain ⟨k2, rfl⟩ : ∃ m, k1 = m + 1 := ⟨k1 - 1, by omega⟩
  have bad0 : messuageref08_Table.j0 (k2 + 1 + 1) l true = some ([], 80) := by simp [messuageref08_Table.j0]
  have bad1 : messuageref08_Table.j1 (k2 + 1) l true = some ([], 81) := by simp [messuageref08_Table.j1]
  unfold messuageref08_Table.f
  by_cases h64 : (l.length : Int) < 64
  · rw [if_pos h64, bad0]
    have : firstOf l = (0, 80) := by unfold firstOf; rw [if_pos (.inl (by omega))]
    simp [tableOf, this]
  have h64' : 64 ≤ l.length := by omega
  rw [if_neg h64, if_pos (by omega)]
  have hf80 : l.take 4 ≠ [127, 69, 76, 70] → tableOf l = ([], 80) := by
    intro h
    have : firstOf l = (0, 80) := by unfold firstOf; rw [if_pos (.inr h)]
    simp [tableOf, this]
  rw [take4 l h64'] at hf80
  by_cases c0 : rd l 0 = 127
  case neg => rw [if_neg c0, bad0, hf80 (by simp [c0])]; rfl
  rw [if_pos c0, if_pos (by omega)]
  by_cases c1 : rd l 1 = 69
  case neg => rw [if_neg c1, bad0, hf80 (by simp [c1])]; rfl
  rw [if_pos c1, if_pos (by omega)]
  by_cases c2 : rd l 2 = 76
  case neg => rw [if_neg c2, bad0, hf80 (by simp [c2])]; rfl
  rw [if_pos c2, if_pos (by omega)]
  by_cases c3 : rd l 3 = 70
  case neg => rw [show (rd l 3 != 70) = true by simp [c3], bad0, hf80 (by simp [c3])]; rfl
  rw [show (rd l 3 != 70) = false by simp [c3]]
  have hm : ¬(l.length < 64 ∨ l.take 4 ≠ [127, 69, 76, 70]) := by rw [take4 l h64', c0, c1, c2, c3]; simp; omega
  have hf81 : rd l 4 ≠ 2 ∨ rd l 5 ≠ 1 ∨ rd l 6 ≠ 1 → tableOf l = ([], 81) := by
    intro h
    have : firstOf l = (0, 81) := by unfold firstOf; rw [if_neg hm, if_pos h]
    simp [tableOf, this]
  simp only [messuageref08_Table.j0, Bool.false_eq_true, if_false]
  rw [if_pos (by omega)]
  by_cases c4 : rd l 4 = 2
  case neg => rw [if_neg c4, bad1, hf81 (.inl c4)]; rfl
  rw [if_pos c4, if_pos (by omega)]
  by_cases c5 : rd l 5 = 1
  case neg => rw [if_neg c5, bad1, hf81 (.inr (.inl c5))]; rfl
  rw [if_pos c5, if_pos (by omega)]
  by_cases c6 : rd l 6 = 1
  case neg => rw [show (rd l 6 != 1) = true by simp [c6], bad1, hf81 (.inr (.inr c6))]; rfl
  rw [show (rd l 6 != 1) = false by simp [c6]]
  have hm2 : ¬(rd l 4 ≠ 2 ∨ rd l 5 ≠ 1 ∨ rd l 6 ≠ 1) := by simp [c4, c5, c6]
  simp only [messuageref08_Table.j1, Bool.false_eq_true, if_false]
  have q16 : messuageref08_N.f k2 l 16 2 = some (U l 16 2) := n_at l hl hlen 16 2 (by omega) (by omega) (by omega) (by omega) k2 (by omega)
  have q18 : messuageref08_N.f k2 l 18 2 = some (U l 18 2) := n_at l hl hlen 18 2 (by omega) (by omega) (by omega) (by omega) k2 (by omega)
  rw [q16, q18]
  simp only [Option.bind_some]
  by_cases c7 : U l 16 2 = 3
  case neg =>
    have : firstOf l = (0, 82) := by unfold firstOf; rw [if_neg hm, if_neg hm2, if_pos c7]
    rw [if_neg c7]
    simp [tableOf, this]
  rw [if_pos c7]
  have done : (U l 18 2 = 62 ∨ U l 18 2 = 183) → messuageref08_Table.j2 k2 l false = some ((tableOf l).1.map head_Table.conv, (tableOf l).2) := by
    intro h
    have : (firstOf l).2 = 0 := by unfold firstOf; rw [if_neg hm, if_neg hm2, if_neg (by omega), if_neg (by omega)]
    rw [j2_at l hl hlen h64' k2 (by omega)]
    have ht : tableOf l = if headsFit l then ((List.range (U l 56 2).toNat).map fun i => headAt l ((U l 32 8).toNat + 56 * i), 0) else ([], 84) := by
      unfold tableOf
      rw [if_neg (not_not_intro this)]
    rw [ht]
    by_cases hf : headsFit l
    · rw [if_pos hf, if_pos hf]
      simp [rows]
    · rw [if_neg hf, if_neg hf]
      rfl
  by_cases c8 : U l 18 2 = 62
  · rw [if_pos c8]
    exact done (.inl c8)
  rw [if_neg c8]
  by_cases c9 : U l 18 2 = 183
  · rw [show (U l 18 2 != 183) = false by simp [c9]]
    exact done (.inr c9)
  · rw [show (U l 18 2 != 183) = true by simp [c9]]
    have : firstOf l = (0, 83) := by unfold firstOf; rw [if_neg hm, if_neg hm2, if_neg (by omega), if_pos ⟨c8, c9⟩]
    obtain ⟨k3, rfl⟩ : ∃ m, k2 = m + 1 := ⟨k2 - 1, by omega⟩
    simp [messuageref08_Table.j2, tableOf, this]
end Go.Proofs.Ytlegpojjbeglhaa.HeadFacts
