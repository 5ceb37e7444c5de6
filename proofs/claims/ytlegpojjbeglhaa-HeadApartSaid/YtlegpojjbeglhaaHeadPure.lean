/- Numbers of so many bytes at a place; what head.first and head.Table compute, as plain functions. No condition. -/
import Derived.Test.YtlegpojjbeglhaaBx1
namespace Go.Proofs.Ytlegpojjbeglhaa.HeadPure
open Go.RowKit Go.Proofs.YtlegpojjbeglhaaW.PrintWords Go.Proofs.Ytlegpojjbeglhaa.B

/-- The number of bytes, the lowest first. -/
def leVal : List Int → Int
  | [] => 0
  | b :: bs => b + 256 * leVal bs
theorem leVal_snoc (bs : List Int) (b : Int) : leVal (bs ++ [b]) = leVal bs + 256 ^ bs.length * b := by
  induction bs with
  | nil => simp [leVal]
  | cons c cs ih =>
    rw [List.cons_append, leVal, leVal, ih, List.length_cons, Int.pow_succ]
    grind
theorem leVal_bound (bs : List Int) (h : ∀ x ∈ bs, 0 ≤ x ∧ x ≤ 255) : 0 ≤ leVal bs ∧ leVal bs < 256 ^ bs.length := by
  induction bs with
  | nil => simp [leVal]
  | cons c cs ih =>
    have h1 := ih (fun x hx => h x (List.mem_cons_of_mem _ hx))
    have h2 := h c (List.mem_cons_self ..)
    rw [leVal, List.length_cons, Int.pow_succ]
    omega
theorem or_join (n b : Int) (hn : 0 ≤ n) (hn2 : n < 72057594037927936) (hb : 0 ≤ b) (hb2 : b ≤ 255) : Go.bits .or .u64 (n * 256) b = n * 256 + b :=
  bits_join .u64 64 (by decide) (fun n h1 h2 => by rw [IntKind.wrap_u64]; omega) 8 (n * 256) b (by omega) (by omega) (by omega) hb (by omega) (by omega)
theorem pow_small : ∀ m : Nat, m ≤ 7 → (256 : Int) ^ m ≤ 72057594037927936 := by decide
def Bytes (l : List Int) : Prop := ∀ x ∈ l, 0 ≤ x ∧ x ≤ 255
theorem Bytes.at_ {l : List Int} (h : Bytes l) (i : Int) : 0 ≤ rd l i ∧ rd l i ≤ 255 := by
  unfold rd
  rw [List.getD_eq_getElem?_getD]
  cases hc : l[i.toNat]? with
  | none => simp
  | some x => exact h x (List.mem_of_getElem? hc)
theorem w64 (z : Int) (h0 : 0 ≤ z) (h1 : z < 18446744073709551616) : IntKind.u64.wrap z = z := by rw [IntKind.wrap_u64]; omega
theorem w64i (z : Int) (h0 : 0 ≤ z) (h1 : z ≤ 9223372036854775807) : wrap64 z = z := by unfold wrap64; omega
theorem rd_nat (l : List Int) (j : Nat) (h : j < l.length) : rd l j = l[j] := by
  unfold rd
  simp [h]
theorem take_rd (l : List Int) (a j : Nat) (h : a + j < l.length) : (l.drop a).take (j + 1) = (l.drop a).take j ++ [rd l ((a : Int) + j)] := by
  rw [List.take_succ_eq_append_getElem (by rw [List.length_drop]; omega)]
  congr 2
  rw [List.getElem_drop, show (a : Int) + j = ((a + j : Nat) : Int) by omega, rd_nat l (a + j) h]

theorem get_down (l : List Int) (hl : Bytes l) (a : Nat) (hlen : l.length ≤ 4611686018427387904) : ∀ (j k : Nat) (n : Int), a + j ≤ l.length → j ≤ 8 → 0 ≤ n → n < 256 ^ (8 - j) → j < k →
    le_get.l0 k l a n ((a : Int) + j - 1) = some (n * 256 ^ j + leVal ((l.drop a).take j), 0) := by
  intro j
  induction j with
  | zero =>
    intro k n h1 h2 h3 h4 h5
    obtain ⟨k, rfl⟩ : ∃ m, k = m + 1 := ⟨k - 1, by omega⟩
    simp only [le_get.l0]
    rw [w64i (a : Int) (by omega) (by omega), if_neg (by omega)]
    simp [leVal]
  | succ j ih =>
    intro k n h1 h2 h3 h4 h5
    obtain ⟨k, rfl⟩ : ∃ m, k = m + 1 := ⟨k - 1, by omega⟩
    simp only [le_get.l0]
    have e2 : (a : Int) + (j + 1 : Nat) - 1 = a + j := by omega
    rw [w64i (a : Int) (by omega) (by omega), e2, if_pos (by omega), if_pos (by omega), if_pos (by omega)]
    have hb := hl.at_ ((a : Int) + j)
    have hp : (256 : Int) ^ (8 - j) = 256 ^ (8 - (j + 1)) * 256 := by
      rw [← Int.pow_succ]; congr 1; omega
    have hp2 : (256 : Int) ^ (8 - (j + 1)) ≤ 72057594037927936 := pow_small _ (by omega)
    have hlt : ((l.drop a).take j).length = j := by rw [List.length_take, List.length_drop]; omega
    have e3 : wrap64 ((a : Int) + j - 1) = a + j - 1 := by unfold wrap64; omega
    rw [take_rd l a j (by omega), leVal_snoc, hlt, w64 (rd l ((a : Int) + j)) hb.1 (by omega), w64 (n * 256) (by omega) (by omega), or_join n _ h3 (by omega) hb.1 hb.2, e3, ih k _ (by omega) (by omega) (by omega) (by omega) (by omega), Int.pow_succ]
    congr 2
    grind
/-- The number of so many bytes at a place. -/
def U (l : List Int) (a n : Nat) : Int := leVal ((l.drop a).take n)
theorem U_bound (l : List Int) (hl : Bytes l) (a n : Nat) (h : a + n ≤ l.length) : 0 ≤ U l a n ∧ U l a n < 256 ^ n := by
  have := leVal_bound ((l.drop a).take n) (fun x hx => hl x (List.mem_of_mem_drop (List.mem_of_mem_take hx)))
  rw [List.length_take, List.length_drop, Nat.min_eq_left (by omega)] at this
  exact this
theorem get_at (l : List Int) (hl : Bytes l) (a n : Nat) (hlen : l.length ≤ 4611686018427387904) (h : a + n ≤ l.length) (hn : n ≤ 8) (hn0 : 1 ≤ n) (k : Nat) (hk : n < k) : le_get.f k l a n = some (U l a n, 0) := by
  have h1 : num_Inside.f a n 0 (IntKind.u64.wrap (l.length : Int)) = some true := by
    rw [w64 _ (by omega) (by omega)]
    unfold num_Inside.f num_Sub.f
    rw [if_neg (by omega), w64 _ (by omega) (by omega)]
    simp only [Option.bind_some, if_true]
    rw [if_pos (by omega), w64 _ (by omega) (by omega)]
    simp
    omega
  unfold le_get.f
  rw [h1]
  simp only [Option.bind_some, if_true]
  rw [w64 ((a : Int) + n) (by omega) (by omega), w64 _ (by omega) (by omega), w64i _ (by omega) (by omega)]
  have h0 : (0 : Int) < 256 ^ (8 - n) := Int.pow_pos (by decide)
  rw [get_down l hl a hlen n k 0 h hn (by omega) h0 hk]
  simp [U]
theorem wrap_u16 (n : Int) : IntKind.u16.wrap n = n % 65536 := by simp [IntKind.wrap, IntKind.bits, IntKind.signed]
theorem u16_at (l : List Int) (hl : Bytes l) (a : Nat) (hlen : l.length ≤ 4611686018427387904) (h : a + 2 ≤ l.length) (k : Nat) (hk : 8 < k) : le_U16.f k l a = some (U l a 2, 0) := by
  have hb := U_bound l hl a 2 h
  have hg := get_at l hl a 2 hlen h (by omega) (by omega) k (by omega)
  rw [show ((2 : Nat) : Int) = 2 by rfl] at hg
  unfold le_U16.f
  rw [hg]
  simp only [Option.bind_some]
  rw [wrap_u16, Int.emod_eq_of_lt hb.1 (by omega)]
theorem u32_at (l : List Int) (hl : Bytes l) (a : Nat) (hlen : l.length ≤ 4611686018427387904) (h : a + 4 ≤ l.length) (k : Nat) (hk : 8 < k) : le_U32.f k l a = some (U l a 4, 0) := by
  have hb := U_bound l hl a 4 h
  have hg := get_at l hl a 4 hlen h (by omega) (by omega) k (by omega)
  rw [show ((4 : Nat) : Int) = 4 by rfl] at hg
  unfold le_U32.f
  rw [hg]
  simp only [Option.bind_some]
  rw [Int.emod_eq_of_lt hb.1 (by omega)]
theorem u64_at (l : List Int) (hl : Bytes l) (a : Nat) (hlen : l.length ≤ 4611686018427387904) (h : a + 8 ≤ l.length) (k : Nat) (hk : 8 < k) : le_U64.f k l a = some (U l a 8, 0) := by
  have hg := get_at l hl a 8 hlen h (by omega) (by omega) k (by omega)
  rw [show ((8 : Nat) : Int) = 8 by rfl] at hg
  unfold le_U64.f
  rw [hg]
  rfl

/-- What head.first tells. -/
def firstOf (l : List Int) : Int × Int :=
  if l.length < 64 ∨ l.take 4 ≠ [127, 69, 76, 70] then (0, 80)
  else if rd l 4 ≠ 2 ∨ rd l 5 ≠ 1 ∨ rd l 6 ≠ 1 then (0, 81)
  else if U l 16 2 ≠ 3 then (0, 82)
  else if U l 18 2 ≠ 62 ∧ U l 18 2 ≠ 183 then (0, 83) else (U l 18 2, 0)
/-- A program header at a place. -/
def headAt (l : List Int) (a : Nat) : S32 := ⟨U l a 4, U l (a + 4) 4, U l (a + 8) 8, U l (a + 16) 8, U l (a + 32) 8, U l (a + 40) 8, U l (a + 48) 8⟩
/-- Do the headers fit? -/
def headsFit (l : List Int) : Prop := U l 52 2 = 64 ∧ U l 54 2 = 56 ∧ 1 ≤ U l 56 2 ∧ U l 56 2 ≤ 16 ∧ U l 32 8 + U l 56 2 * 56 ≤ l.length
instance (l : List Int) : Decidable (headsFit l) := by unfold headsFit; infer_instance
/-- What head.Table tells. -/
def tableOf (l : List Int) : List S32 × Int :=
  if (firstOf l).2 ≠ 0 then ([], (firstOf l).2)
  else if headsFit l then ((List.range (U l 56 2).toNat).map fun i => headAt l ((U l 32 8).toNat + 56 * i), 0) else ([], 84)
end Go.Proofs.Ytlegpojjbeglhaa.HeadPure
