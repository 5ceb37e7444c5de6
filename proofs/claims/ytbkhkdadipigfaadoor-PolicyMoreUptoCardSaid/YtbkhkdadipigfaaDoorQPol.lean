/-
  What the printed functions of package policy and of its reference compute of two texts, said in lists of bytes. Conditions: the sizes that stand in each lemma.
-/
import Derived.Test.YtbkhkdadipigfaaDoorQEq
import Derived.Test.YtbkhkdadipigfaaDoorQx11
namespace Go.Proofs.YtbkhkdadipigfaaDoor.QPol
open Go.RowKit Go.Proofs.YtbkhkdadipigfaaDoor.Q Go.Proofs.YtbkhkdadipigfaaDoorW.PrintWords Go.Proofs.YtbkhkdadipigfaaDoorW.PrintLast
open Go.Proofs.YtbkhkdadipigfaaDoor.PathL Go.Proofs.YtbkhkdadipigfaaDoor.QEq

def c1 (l : Bs) : Bs := (Lib.cut l [33, 47]).1
def c2 (l : Bs) : Bs := (Lib.cut l [33, 47]).2.1
def c3 (l : Bs) : Bool := (Lib.cut l [33, 47]).2.2
theorem arch_is (l : Bs) : arch l = (mkB (c1 l), mkB (c2 l), c3 l) := rfl
theorem c1_len (l : Bs) : (c1 l).length ≤ l.length := by
  unfold c1 Lib.cut
  split
  · rw [List.length_take]; omega
  · exact Nat.le_refl _
theorem c2_len (l : Bs) : (c2 l).length ≤ l.length := by
  unfold c2 Lib.cut
  split
  · rw [List.length_drop]; omega
  · simp
def pChild (r d : Bs) : Bool := if c3 r = true then (if c3 d = true then c1 r == c1 d && child (47 :: c2 r) (47 :: c2 d) else false) else if c3 d = true then false else child (c1 r) (c1 d)
def pUnder (r d : Bs) : Bool := if c3 d = true then (if c3 r = true then c1 r == c1 d && !(c2 r == c2 d) && under (47 :: c2 r) (47 :: c2 d) else false) else (c3 r && c1 r == c1 d) || (!(c1 r == c1 d) && under (c1 r) (c1 d))

theorem slash_mkB (l : Bs) : ((⟨#[47]⟩ : ByteArray) ++ mkB l).data.toList = 47 :: l := by
  rw [ByteArray.data_append, Array.toList_append, mkB_data]; rfl
theorem slash_size (l : Bs) : ((⟨#[47]⟩ : ByteArray) ++ mkB l).size = l.length + 1 := by
  rw [← data_len, slash_mkB]; rfl

theorem child_eq' (r d : ByteArray) (k : Nat) (hk : r.size + 5 < k) (hr : r.size ≤ 2000000) (hd : d.size ≤ 2000000) : policy_Child.f k r d = some (pChild r.data.toList d.data.toList) := by
  have l1 := c1_len r.data.toList
  have l2 := c2_len r.data.toList
  have l3 := c2_len d.data.toList
  rw [data_len] at l1 l2 l3
  unfold policy_Child.f pChild
  rw [arch_eq r (by omega), arch_eq d (by omega), arch_is, arch_is]
  simp only [Option.bind_some]
  rw [child_eq _ _ k (by rw [slash_size]; omega) (by rw [slash_size]; omega), child_eq _ _ k (by rw [mkB_size]; omega) (by rw [mkB_size]; omega), slash_mkB, slash_mkB, mkB_data, mkB_data, mkB_size, mkB_size]
  simp only [Option.bind_some]
  cases h1 : c3 r.data.toList <;> cases h2 : c3 d.data.toList
  · simp
  · simp
  · simp
  · simp only [bne_self_eq_false, Bool.false_eq_true, if_false, if_true]
    rw [QEq.mt, QEq.mt]
    by_cases h : c1 r.data.toList = c1 d.data.toList
    · rw [if_pos h, if_pos (by omega), if_pos (by omega), h]; simp
    · rw [if_neg h, beq_eq_false_iff_ne.2 h]; rfl
theorem rchild_eq' (r d : ByteArray) (k : Nat) (hk : 2 * r.size + 2 * d.size + 6 < k) (hr : r.size ≤ 2000000) (hd : d.size ≤ 2000000) : messuageref20_Child.f k r d = some (pChild r.data.toList d.data.toList) := by
  have l1 := c1_len r.data.toList
  have l2 := c2_len r.data.toList
  have l3 := c2_len d.data.toList
  rw [data_len] at l1 l2 l3
  obtain ⟨k, rfl⟩ : ∃ m, k = m + 1 := ⟨k - 1, by omega⟩
  unfold messuageref20_Child.f pChild
  rw [rarch_eq r (k + 1) (by omega) (by omega), rarch_eq d (k + 1) (by omega) (by omega), arch_is, arch_is]
  simp only [Option.bind_some, messuageref20_Child.j0]
  rw [rchild_eq _ _ k (by rw [slash_size]; omega) (by rw [slash_size]; omega), rchild_eq _ _ k (by rw [mkB_size]; omega) (by rw [mkB_size]; omega), slash_mkB, slash_mkB, mkB_data, mkB_data, mkB_size, mkB_size]
  simp only [Option.bind_some]
  cases h1 : c3 r.data.toList <;> cases h2 : c3 d.data.toList
  · simp
  · simp
  · simp
  · simp only [if_true]
    rw [QEq.mt, QEq.mt]
    by_cases h : c1 r.data.toList = c1 d.data.toList
    · rw [if_pos h, if_pos (by omega), if_pos (by omega), h]; simp
    · rw [if_neg h, beq_eq_false_iff_ne.2 h]; rfl
theorem under_eq' (r d : ByteArray) (hr : r.size ≤ 2000000) (hd : d.size ≤ 2000000) : policy_Under.f r d = some (pUnder r.data.toList d.data.toList) := by
  have l1 := c1_len d.data.toList
  have l2 := c2_len r.data.toList
  have l3 := c2_len d.data.toList
  rw [data_len] at l1 l2 l3
  unfold policy_Under.f pUnder
  rw [arch_eq r (by omega), arch_eq d (by omega), arch_is, arch_is]
  simp only [Option.bind_some]
  rw [under_eq _ _ (by rw [slash_size]; omega), under_eq _ _ (by rw [mkB_size]; omega), slash_mkB, slash_mkB, mkB_data, mkB_data, mkB_size, mkB_size]
  simp only [Option.bind_some, QEq.mt]
  rw [if_pos (show 1 + (c2 r.data.toList).length ≤ 9223372036854775807 by omega), if_pos (show 1 + (c2 d.data.toList).length ≤ 9223372036854775807 by omega)]
  cases h2 : c3 d.data.toList
  · simp only [Bool.false_eq_true, if_false]
    by_cases h : c1 r.data.toList = c1 d.data.toList
    · rw [h]
      cases under (c1 d.data.toList) (c1 d.data.toList) <;> cases c3 r.data.toList <;> simp
    · rw [beq_eq_false_iff_ne.2 h, if_neg h]
      cases under (c1 r.data.toList) (c1 d.data.toList) <;> cases c3 r.data.toList <;> simp
  · simp only [if_true]
    cases h1 : c3 r.data.toList
    · simp
    · simp only [if_true]
      by_cases h : c1 r.data.toList = c1 d.data.toList
      · rw [if_pos h, h]
        cases under (47 :: c2 r.data.toList) (47 :: c2 d.data.toList) <;> simp [bne]
      · rw [if_neg h, beq_eq_false_iff_ne.2 h]; rfl
theorem runder_eq' (r d : ByteArray) (k : Nat) (hk : 2 * r.size + 2 * d.size + 6 < k) (hr : r.size ≤ 2000000) (hd : d.size ≤ 2000000) : messuageref20_Under.f k r d = some (pUnder r.data.toList d.data.toList) := by
  have l1 := c1_len d.data.toList
  have l2 := c2_len r.data.toList
  have l3 := c2_len d.data.toList
  rw [data_len] at l1 l2 l3
  obtain ⟨k, rfl⟩ : ∃ n, k = n + 1 := ⟨k - 1, by omega⟩
  unfold messuageref20_Under.f pUnder
  simp only [messuageref20_Under.j0]
  rw [rarch_eq r (k + 1) (by omega) (by omega), rarch_eq d (k + 1) (by omega) (by omega), arch_is, arch_is]
  simp only [Option.bind_some]
  rw [runder_eq _ _ (by rw [slash_size]; omega), runder_eq _ _ (by rw [mkB_size]; omega), slash_mkB, slash_mkB, mkB_data, mkB_data, mkB_size, mkB_size]
  simp only [Option.bind_some, QEq.mt]
  rw [if_pos (show 1 + (c2 r.data.toList).length ≤ 9223372036854775807 by omega), if_pos (show 1 + (c2 d.data.toList).length ≤ 9223372036854775807 by omega)]
  cases h2 : c3 d.data.toList
  · simp only [Bool.false_eq_true, if_false]
    by_cases h : c1 r.data.toList = c1 d.data.toList
    · rw [h]
      cases c3 r.data.toList <;> simp
    · rw [if_neg h, beq_eq_false_iff_ne.2 h]
      cases c3 r.data.toList <;> simp
  · simp only [if_true]
    cases h1 : c3 r.data.toList
    · simp
    · simp only [if_true]
      by_cases h : c1 r.data.toList = c1 d.data.toList
      · rw [if_pos h, h]
        by_cases h3 : c2 r.data.toList = c2 d.data.toList
        · rw [if_pos h3, h3]; simp
        · rw [if_neg h3, beq_eq_false_iff_ne.2 h3]; simp
      · rw [if_neg h, beq_eq_false_iff_ne.2 h]; rfl
theorem right_zero (k : Nat) (hk : 0 < k) : policy_Right.f k 0 0 ([] : List ByteArray) 0 (⟨#[]⟩ : ByteArray) 0 0 = some 83 := by
  obtain ⟨k, rfl⟩ : ∃ m, k = m + 1 := ⟨k - 1, by omega⟩
  unfold policy_Right.f
  rw [if_neg (by decide)]
  simp only [policy_Right.j0]
  rfl
theorem alive_eq' (k : Nat) (hk : 100 < k) : messuagelaw20_alive.f k = some true := by
  unfold messuagelaw20_alive.f
  rw [child_eq' _ _ k (by show 9 + 5 < k; omega) (by decide) (by decide), child_eq' _ _ k (by show 11 + 5 < k; omega) (by decide) (by decide), under_eq' _ _ (by decide) (by decide), under_eq' _ _ (by decide) (by decide), child_eq' _ _ k (by show 16 + 5 < k; omega) (by decide) (by decide), right_zero k (by omega)]
  simp only [Option.bind_some]
  decide +kernel

end Go.Proofs.YtbkhkdadipigfaaDoor.QPol
