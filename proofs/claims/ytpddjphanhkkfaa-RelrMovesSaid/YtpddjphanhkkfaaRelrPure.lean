/- What relr.Decode computes, as a plain function; numbers of eight bytes. No condition. -/
import Derived.Test.YtpddjphanhkkfaaPRelrReadsx1
import Derived.Test.YtpddjphanhkkfaaRelrIter
namespace Go.Proofs.Ytpddjphanhkkfaa.RelrPure
open Go.RowKit Go.Proofs.Ytpddjphanhkkfaa.RelrIter Go.Proofs.YtpddjphanhkkfaaW.PrintWords Go.Proofs.Ytpddjphanhkkfaa.PRelrReads

/-- The number of bytes, the lowest first. -/
def leVal : List Int → Int
  | [] => 0
  | b :: bs => b + 256 * leVal bs
theorem leVal_snoc (bs : List Int) (b : Int) : leVal (bs ++ [b]) = leVal bs + 256 ^ bs.length * b := by
  induction bs with
  | nil => simp [leVal]
  | cons c cs ih =>
    rw [List.cons_append, leVal, leVal, ih, List.length_cons, Int.pow_succ]
    grind
theorem leVal_bound (bs : List Int) (h : ∀ x ∈ bs, 0 ≤ x ∧ x ≤ 255) : 0 ≤ leVal bs ∧ leVal bs < 256 ^ bs.length := by
  induction bs with
  | nil => simp [leVal]
  | cons c cs ih =>
    have h1 := ih (fun x hx => h x (List.mem_cons_of_mem _ hx))
    have h2 := h c (List.mem_cons_self ..)
    rw [leVal, List.length_cons, Int.pow_succ]
    omega

theorem or_join (n b : Int) (hn : 0 ≤ n) (hn2 : n < 72057594037927936) (hb : 0 ≤ b) (hb2 : b ≤ 255) : Go.bits .or .u64 (n * 256) b = n * 256 + b :=
  bits_join .u64 64 (by decide) (fun n h1 h2 => by rw [IntKind.wrap_u64]; omega) 8 (n * 256) b (by omega) (by omega) (by omega) hb (by omega) (by omega)
theorem and_one (n : Int) (h0 : 0 ≤ n) (h1 : n < 18446744073709551616) : Go.bits .and .u64 n 1 = n % 2 := by
  have := bits_mask .u64 64 (by decide) (fun n h1 h2 => by rw [IntKind.wrap_u64]; omega) 1 (by decide) n h0 (by omega)
  simpa using this

theorem pow_small : ∀ m : Nat, m ≤ 7 → (256 : Int) ^ m ≤ 72057594037927936 := by decide
def Bytes (l : List Int) : Prop := ∀ x ∈ l, 0 ≤ x ∧ x ≤ 255
theorem Bytes.at_ {l : List Int} (h : Bytes l) (i : Int) : 0 ≤ rd l i ∧ rd l i ≤ 255 := by
  unfold rd
  rw [List.getD_eq_getElem?_getD]
  cases hc : l[i.toNat]? with
  | none => simp
  | some x => exact h x (List.mem_of_getElem? hc)

theorem get_down (l : List Int) (hl : Bytes l) (at_ : Nat) (hlen : l.length ≤ 4611686018427387904) : ∀ (j k : Nat) (n : Int), at_ + j ≤ l.length → j ≤ 8 → 0 ≤ n → n < 256 ^ (8 - j) → j < k →
    le_get.l0 k l at_ n ((at_ : Int) + j - 1) = some (n * 256 ^ j + leVal ((l.drop at_).take j), 0) := by
  intro j
  induction j with
  | zero =>
    intro k n h1 h2 h3 h4 h5
    obtain ⟨k, rfl⟩ : ∃ m, k = m + 1 := ⟨k - 1, by omega⟩
    simp only [le_get.l0]
    have : wrap64 (at_ : Int) = at_ := by unfold wrap64; omega
    rw [this, if_neg (by omega)]
    simp [leVal]
  | succ j ih =>
    intro k n h1 h2 h3 h4 h5
    obtain ⟨k, rfl⟩ : ∃ m, k = m + 1 := ⟨k - 1, by omega⟩
    simp only [le_get.l0]
    have e1 : wrap64 (at_ : Int) = at_ := by unfold wrap64; omega
    have e2 : (at_ : Int) + (j + 1 : Nat) - 1 = at_ + j := by omega
    have e3 : wrap64 ((at_ : Int) + j - 1) = at_ + j - 1 := by unfold wrap64; omega
    rw [e1, e2, if_pos (by omega), if_pos (by omega), if_pos (by omega), e3]
    have hb := hl.at_ ((at_ : Int) + j)
    have hp : (256 : Int) ^ (8 - j) = 256 ^ (8 - (j + 1)) * 256 := by
      rw [← Int.pow_succ]; congr 1; omega
    have hp2 : (256 : Int) ^ (8 - (j + 1)) ≤ 72057594037927936 := pow_small _ (by omega)
    have w1 : IntKind.u64.wrap (n * 256) = n * 256 := by rw [IntKind.wrap_u64]; omega
    have w2 : IntKind.u64.wrap (rd l ((at_ : Int) + j)) = rd l ((at_ : Int) + j) := by rw [IntKind.wrap_u64]; omega
    rw [w1, w2, or_join n _ h3 (by omega) hb.1 hb.2, ih k _ (by omega) (by omega) (by omega) (by omega) (by omega)]
    have hj : j < (l.drop at_).length := by rw [List.length_drop]; omega
    have ht : (l.drop at_).take (j + 1) = (l.drop at_).take j ++ [rd l ((at_ : Int) + j)] := by
      rw [List.take_succ_eq_append_getElem hj]
      congr 2
      unfold rd
      rw [List.getElem_drop, List.getD_eq_getElem?_getD, show ((at_ : Int) + j).toNat = at_ + j by omega, List.getElem?_eq_getElem (by rw [List.length_drop] at hj; omega)]
      rfl
    have hlt : ((l.drop at_).take j).length = j := by rw [List.length_take]; omega
    rw [ht, leVal_snoc, hlt]
    congr 2
    rw [Int.pow_succ]
    grind

theorem u64_at (l : List Int) (hl : Bytes l) (at_ : Nat) (hlen : l.length ≤ 4611686018427387904) (h : at_ + 8 ≤ l.length) (k : Nat) (hk : 8 < k) : le_U64.f k l at_ = some (leVal ((l.drop at_).take 8), 0) := by
  have w (z : Int) (h0 : 0 ≤ z) (h1 : z < 18446744073709551616) : IntKind.u64.wrap z = z := by rw [IntKind.wrap_u64]; omega
  have h1 : num_Inside.f at_ 8 0 (IntKind.u64.wrap (l.length : Int)) = some true := by
    rw [w _ (by omega) (by omega)]
    unfold num_Inside.f num_Sub.f
    rw [if_neg (by omega), w _ (by omega) (by omega)]
    simp only [Option.bind_some, if_true]
    rw [if_pos (by omega), w _ (by omega) (by omega)]
    simp
    omega
  unfold le_U64.f le_get.f
  rw [h1]
  simp only [Option.bind_some, if_true]
  rw [w ((at_ : Int) + 8) (by omega) (by omega), w _ (by omega) (by omega)]
  have e : wrap64 ((at_ : Int) + 8 - 1) = at_ + (8 : Nat) - 1 := by unfold wrap64; omega
  rw [e, get_down l hl at_ hlen 8 k 0 (by omega) (by omega) (by omega) (by simp) hk]
  simp

/-- The number at a word. -/
def word (l : List Int) (k : Nat) : Int := leVal ((l.drop (8 * k)).take 8)
theorem word_bound (l : List Int) (hl : Bytes l) (k : Nat) (h : 8 * k + 8 ≤ l.length) : 0 ≤ word l k ∧ word l k < 18446744073709551616 := by
  have := leVal_bound ((l.drop (8 * k)).take 8) (fun x hx => hl x (List.mem_of_mem_drop (List.mem_of_mem_take hx)))
  rw [List.length_take, List.length_drop, Nat.min_eq_left (by omega)] at this
  exact ⟨this.1, this.2⟩
def words (l : List Int) : List Int := (List.range (l.length / 8)).map (word l)
theorem words_len (l : List Int) : (words l).length = l.length / 8 := by simp [words]
theorem words_drop (l : List Int) (k : Nat) (h : k < l.length / 8) : (words l).drop k = word l k :: (words l).drop (k + 1) := by
  rw [List.drop_eq_getElem_cons (by rw [words_len]; exact h)]
  simp [words]
theorem words_all (l : List Int) (k : Nat) (h : l.length / 8 ≤ k) : (words l).drop k = [] := List.drop_eq_nil_of_le (by rw [words_len]; exact h)

/-- What words tell behind what was told. -/
def dec : List Int → List Int → Int → Bool → List Int × Int
  | [], out, _, _ => (out, 0)
  | n :: ws, out, frm, any =>
    if n % 2 = 0 then
      if n > 18446744073709551607 then ([], 130) else if out.length + 1 > 512 then ([], 130) else dec ws (out ++ [n]) (n + 8) true
    else if any = true then
      if frm > 18446744073709551111 then ([], 130) else if (out ++ upto n frm 63).length > 512 then ([], 130) else dec ws (out ++ upto n frm 63) (frm + 504) true
    else ([], 130)
/-- The places that bytes tell. -/
def decode (l : List Int) : List Int × Int := if l.length % 8 ≠ 0 ∨ l.length > 4096 then ([], 130) else dec (words l) [] 0 false

theorem add8 (n : Int) (h0 : 0 ≤ n) (h1 : n < 18446744073709551616) : num_Add.f n 8 = if n > 18446744073709551607 then some (0, false) else some (n + 8, true) := by
  unfold num_Add.f
  have : IntKind.u64.wrap (18446744073709551615 - 8) = 18446744073709551607 := by decide
  rw [this]
  split
  · rfl
  · rw [IntKind.wrap_u64]
    congr 2
    omega
theorem add504 (n : Int) (h0 : 0 ≤ n) (h1 : n < 18446744073709551616) : num_Add.f n 504 = if n > 18446744073709551111 then some (0, false) else some (n + 504, true) := by
  unfold num_Add.f
  have : IntKind.u64.wrap (18446744073709551615 - 504) = 18446744073709551111 := by decide
  rw [this]
  split
  · rfl
  · rw [IntKind.wrap_u64]
    congr 2
    omega
end Go.Proofs.Ytpddjphanhkkfaa.RelrPure
