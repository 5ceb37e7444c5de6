/- What relr.Encode computes, as a plain function. No condition. -/
import Derived.Test.YtpddjphanhkkfaaPRelrReadsx2
import Derived.Test.YtpddjphanhkkfaaRelrPure
import Derived.Test.YtpddjphanhkkfaaBuf
namespace Go.Proofs.Ytpddjphanhkkfaa.RelrEncPure
open Go.RowKit Go.Proofs.YtpddjphanhkkfaaW.PrintWords Go.Proofs.YtpddjphanhkkfaaW.PrintMore Go.Proofs.Ytpddjphanhkkfaa.PRelrReads Go.Proofs.Ytpddjphanhkkfaa.Buf Go.Proofs.Ytpddjphanhkkfaa.RelrPure

def Words (l : List Int) : Prop := ∀ x ∈ l, 0 ≤ x ∧ x < 18446744073709551616
theorem Words.at_ {l : List Int} (h : Words l) (i : Int) : 0 ≤ rd l i ∧ rd l i < 18446744073709551616 := by
  unfold rd
  rw [List.getD_eq_getElem?_getD]
  cases hc : l[i.toNat]? with
  | none => simp
  | some x => exact h x (List.mem_of_getElem? hc)
theorem Words.drop {l : List Int} (h : Words l) (i : Nat) : Words (l.drop i) := fun x hx => h x (List.mem_of_mem_drop hx)
theorem rd_nat (l : List Int) (j : Nat) (h : j < l.length) : rd l j = l[j] := by
  unfold rd
  simp [h]

/-- Is a place in the row from a place on? -/
def inRow (frm p : Int) : Prop := ¬ p < frm ∧ ¬ p - frm ≥ 504 ∧ (p - frm) % 8 = 0
instance (frm p : Int) : Decidable (inRow frm p) := by unfold inRow; infer_instance
/-- The bits of the places ahead that stand in one row, and how many they are. -/
def rowS (frm : Int) : List Int → Int → Int × Nat
  | [], acc => (acc, 0)
  | p :: ps, acc => if inRow frm p then ((rowS frm ps (Go.bits .or .u64 acc (2 ^ ((p - frm) / 8 + 1).toNat))).1, (rowS frm ps (Go.bits .or .u64 acc (2 ^ ((p - frm) / 8 + 1).toNat))).2 + 1) else (acc, 0)
theorem rowS_le (frm : Int) : ∀ (ps : List Int) (acc : Int), (rowS frm ps acc).2 ≤ ps.length
  | [], _ => Nat.le_refl _
  | p :: ps, acc => by
    rw [rowS]
    split
    · exact Nat.succ_le_succ (rowS_le frm ps _)
    · exact Nat.zero_le _
theorem bits_range (op : BinOp) (a b : Int) : 0 ≤ Go.bits op .u64 a b ∧ Go.bits op .u64 a b < 18446744073709551616 := by
  unfold Go.bits
  split <;> (rw [IntKind.wrap_u64]; omega)
theorem rowS_range (frm : Int) : ∀ (ps : List Int) (acc : Int), 0 ≤ acc → acc < 18446744073709551616 → 0 ≤ (rowS frm ps acc).1 ∧ (rowS frm ps acc).1 < 18446744073709551616
  | [], acc, h0, h1 => ⟨h0, h1⟩
  | p :: ps, acc, h0, h1 => by
    rw [rowS]
    split
    · exact rowS_range frm ps _ (bits_range _ _ _).1 (bits_range _ _ _).2
    · exact ⟨h0, h1⟩
theorem rowS_first (frm : Int) (p : Int) (ps : List Int) (acc : Int) (h : 0 < (rowS frm (p :: ps) acc).2) : inRow frm p := by
  rw [rowS] at h
  split at h
  · assumption
  · simp at h

theorem pow_shl (e : Int) (h0 : 1 ≤ e) (h1 : e ≤ 63) : shl .u64 1 e = 2 ^ e.toNat := by
  unfold shl
  obtain ⟨n, rfl⟩ := Int.eq_ofNat_of_zero_le (show 0 ≤ e by omega)
  have hn : n ≤ 63 := by omega
  rw [Int.toNat_natCast, show IntKind.u64.bits = 64 from rfl, Nat.min_eq_left (by omega), IntKind.wrap_u64]
  have h : ∀ m : Nat, m ≤ 63 → (1 * (2 : Int) ^ m) % 18446744073709551616 = 2 ^ m := by decide
  exact h n hn
theorem inRow_mk {frm p : Int} (c1 : ¬ p < frm) (c2 : ¬ p - frm ≥ 504) (c3 : (p - frm) % 8 = 0) : inRow frm p := ⟨c1, c2, c3⟩
theorem w64 (z : Int) (h0 : 0 ≤ z) (h1 : z < 18446744073709551616) : IntKind.u64.wrap z = z := by rw [IntKind.wrap_u64]; omega
theorem row_num (x : Int) (h0 : 0 ≤ x) (h1 : x < 504) : IntKind.u64.wrap (x / 8) = x / 8 ∧ IntKind.u64.wrap (x / 8 + 1) = x / 8 + 1 ∧ 0 ≤ x / 8 + 1 ∧ 1 ≤ x / 8 + 1 ∧ x / 8 + 1 ≤ 63 := by
  have h2 : 0 ≤ x / 8 := by omega
  have h3 : x / 8 ≤ 62 := by omega
  generalize x / 8 = y at h2 h3
  exact ⟨w64 _ h2 (by omega), w64 _ (by omega) (by omega), by omega, by omega, by omega⟩
set_option maxHeartbeats 1000000 in
theorem row_at (l : List Int) (hl : Words l) (frm : Int) (h0 : 0 ≤ frm) (h1 : frm < 18446744073709551616) (hlen : l.length ≤ 4611686018427387904) : ∀ (d j k : Nat) (acc : Int), l.length - j = d → j ≤ l.length → d < k →
    relr_row.l0 k l frm acc l l.length j = some ((rowS frm (l.drop j) acc).1, ((j + (rowS frm (l.drop j) acc).2 : Nat) : Int)) := by
  intro d
  induction d with
  | zero =>
    intro j k acc hd hj hk
    obtain ⟨k, rfl⟩ : ∃ m, k = m + 1 := ⟨k - 1, by omega⟩
    simp only [relr_row.l0]
    rw [if_neg (by omega), List.drop_eq_nil_of_le (by omega)]
    simp [rowS]
    omega
  | succ d ih =>
    intro j k acc hd hj hk
    obtain ⟨k, rfl⟩ : ∃ m, k = m + 1 := ⟨k - 1, by omega⟩
    simp only [relr_row.l0]
    have hjl : j < l.length := by omega
    have hp := hl.at_ (j : Int)
    have hdr : l.drop j = rd l j :: l.drop (j + 1) := by rw [List.drop_eq_getElem_cons hjl, rd_nat l j hjl]
    rw [if_pos (by omega), if_pos (by omega), if_pos (by omega), hdr, rowS]
    generalize rd l j = p at hp
    obtain ⟨hp0, hp1⟩ := hp
    by_cases c1 : p < frm
    · rw [if_pos c1, if_neg (by unfold inRow; omega)]
      simp
    · rw [if_neg c1, w64 (p - frm) (by omega) (by omega)]
      by_cases c2 : p - frm ≥ 504
      · rw [if_pos c2, if_neg (by unfold inRow; omega)]
        simp
      · rw [if_neg c2]
        have e1 : Int.tmod (p - frm) 8 = (p - frm) % 8 := Int.tmod_eq_emod_of_nonneg (by omega)
        have e2 : Int.tdiv (p - frm) 8 = (p - frm) / 8 := Int.tdiv_eq_ediv_of_nonneg (by omega)
        rw [e1, e2]
        by_cases c3 : (p - frm) % 8 = 0
        · obtain ⟨g1, g2, g3, g4, g5⟩ := row_num (p - frm) (by omega) (by omega)
          rw [if_pos c3, if_pos (inRow_mk c1 c2 c3), g1, g2, if_pos g3, pow_shl _ g4 g5]
          clear g1 g2 g3 g4 g5 c3 e1 e2
          have e3 : wrap64 ((j : Int) + 1) = ((j + 1 : Nat) : Int) := by unfold wrap64; omega
          rw [e3, ih (j + 1) k _ (by omega) (by omega) (by omega)]
          simp
          omega
        · rw [if_neg c3, if_neg (by unfold inRow; omega)]
          simp
theorem row_f (l : List Int) (hl : Words l) (frm : Int) (h0 : 0 ≤ frm) (h1 : frm < 18446744073709551616) (hlen : l.length ≤ 4611686018427387904) (k : Nat) (hk : l.length < k) :
    relr_row.f k l frm = some ((rowS frm l 1).1, ((rowS frm l 1).2 : Int)) := by
  unfold relr_row.f
  have := row_at l hl frm h0 h1 hlen l.length 0 k 1 rfl (by omega) hk
  simpa using this

mutual
/-- The words that tell places. -/
def encW : Nat → List Int → List Int
  | 0, _ => []
  | _ + 1, [] => []
  | k + 1, p :: ps => p :: encR k ps (p + 8)
/-- The words that tell places behind a place. -/
def encR : Nat → List Int → Int → List Int
  | 0, _, _ => []
  | k + 1, ps, frm => if (rowS frm ps 1).2 = 0 then encW k ps else (rowS frm ps 1).1 :: encR k (ps.drop (rowS frm ps 1).2) (frm + 504)
end
/-- May a place be told at its number? -/
def okAt (l : List Int) (i : Nat) : Prop := rd l i % 2 = 0 ∧ rd l i ≤ 18446744073709551103 ∧ (i = 0 ∨ rd l ((i : Int) - 1) < rd l i ∧ 8 ≤ rd l i - rd l ((i : Int) - 1))
instance (l : List Int) (i : Nat) : Decidable (okAt l i) := by unfold okAt; infer_instance
/-- Words as bytes. -/
def flat (ws : List Int) : List Int := ws.flatMap fun n => putBytes n 8
def encode (l : List Int) : List Int × Int :=
  if l.length > 512 then ([], 130) else if ∀ i, i < l.length → okAt l i then (flat (encW (2 * l.length + 1) l), 0) else ([], 130)
end Go.Proofs.Ytpddjphanhkkfaa.RelrEncPure
