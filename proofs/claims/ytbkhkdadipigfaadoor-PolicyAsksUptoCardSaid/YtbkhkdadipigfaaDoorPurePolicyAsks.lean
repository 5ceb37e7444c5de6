/-
  What a namespace may have, which names it may have at all, which link lets a name through: the printed law answers true where the texts in the lists are of at most 1048576 bytes.
-/
import Derived.Test.YtbkhkdadipigfaaDoorQAskEq
import Derived.Test.YtbkhkdadipigfaaDoorQAskF
namespace Go.Proofs.YtbkhkdadipigfaaDoor.PureQ
open Go.RowKit Go.Proofs.YtbkhkdadipigfaaDoor.Q Go.Proofs.YtbkhkdadipigfaaDoorW.PrintWords Go.Proofs.YtbkhkdadipigfaaDoorW.PrintLast
open Go.Proofs.YtbkhkdadipigfaaDoor.PathL Go.Proofs.YtbkhkdadipigfaaDoor.QEq Go.Proofs.YtbkhkdadipigfaaDoor.QPol Go.Proofs.YtbkhkdadipigfaaDoor.QAskEq

theorem asks_l0 (name : ByteArray) (xs : List S48) (hx : xs.length ≤ 2000000) (hl : ∀ l ∈ xs, l.f1.length ≤ 60) (u0 u1 u2 u3 u4 u5 u6 u7 u8 u9 u10 u11 u12 u13 u14 u15 u17 v0 v1 v2 v3 v4 v5) (d : Nat) : ∀ (k i : Nat), i ≤ xs.length → xs.length - i = d → 2 * d + 200 < k →
    messuagelaw20_PolicyAsks.l0 k i u0 u1 u2 u3 u4 u5 u6 u7 u8 u9 u10 u11 u12 u13 u14 u15 name u17 v0 v1 v2 v3 v4 v5 xs = some true := by
  induction d with
  | zero =>
    intro k i hi hd hk
    obtain ⟨k, rfl⟩ : ∃ n, k = n + 1 := ⟨k - 1, by omega⟩
    simp only [messuagelaw20_PolicyAsks.l0]
    rw [if_neg (by omega), alive_eq' k (by omega)]
    rfl
  | succ d ih =>
    intro k i hi hd hk
    obtain ⟨k, rfl⟩ : ∃ n, k = n + 2 := ⟨k - 2, by omega⟩
    have hb := hl xs[i] (List.getElem_mem _)
    simp only [messuagelaw20_PolicyAsks.l0, messuagelaw20_PolicyAsks.j2]
    rw [if_pos (by omega), if_pos (by omega), w1 i (by omega), ih k (i + 1) (by omega) (by omega) (by omega), rd48_get xs i (by omega), through_eq _ name (k + 1) (by omega) (by omega), rhas_eq' name _ (k + 1) (by omega) (by omega)]
    simp only [Option.bind_some]
    by_cases h2 : xs[i].f2 = true
    · rw [if_pos h2, if_neg (by simp [thr, h2])]
    · rw [if_neg h2, if_neg (by simp [thr, h2])]
set_option maxRecDepth 10000 in
theorem PolicyAsks (a0 : ByteArray) (a1 a2 : Bool) (l3 l4 l5 : List ByteArray) (l6 : List S48) (a7 a8 : Int) (l9 : List ByteArray) (a10 : Int) (a11 : ByteArray) (a12 a13 : Int) (a14 : Bool) (a15 a16 a17 : ByteArray)
    (h3 : ∀ x ∈ l3, x.size ≤ 1048576) (h4 : ∀ x ∈ l4, x.size ≤ 1048576) : ∃ k, messuagelaw20_PolicyAsks.f k a0 a1 a2 l3 l4 l5 l6 a7 a8 l9 a10 a11 a12 a13 a14 a15 a16 a17 = some true := by
  obtain ⟨K, hK⟩ : ∃ K : Nat, K = 10000000 := ⟨_, rfl⟩
  refine ⟨K + 1, ?_⟩
  obtain ⟨b, hb, hbl⟩ := great_eq a0 a1 a2 l3 l4 l5 l6 a7 a8 l9 a10 a11 a12 a13 a14 a15 a16 a17 (K + 1) (by omega)
  unfold messuagelaw20_PolicyAsks.f
  rw [hb, Option.bind_some]
  cases b
  · obtain ⟨n3, n4, n5, n6, n7, n8, n9, n10⟩ := hbl rfl
    rw [if_neg (by decide)]
    rw [acc_eq a15 n8 a8 l9 a10 a11 (by omega) (by omega) a7 a12 a13 a14 a0 a1 a2 l3 l4 l5 l6 n3 (fun x hx => by have := h3 x hx; omega) n4 (fun x hx => by have := h4 x hx; omega) (K + 1) (by omega)]
    rw [racc_eq a15 n8 a8 l9 a10 a11 (by omega) (by omega) a7 a12 a13 a14 a0 a1 a2 l3 l4 l5 l6 n3 (fun x hx => by have := h3 x hx; omega) n4 (fun x hx => by have := h4 x hx; omega) (K + 1) (by omega)]
    rw [Option.bind_some, Option.bind_some, if_neg (by simp)]
    rw [grey_eq a7 a8 l9 a10 a11 a12 a13 a15 (K + 1) (by omega) (by omega) (by omega) (by omega) (by omega)]
    rw [rgrey_eq a7 a8 l9 a10 a11 a12 a13 a15 (K + 1) (by omega) (by omega) (by omega) (by omega) (by omega)]
    rw [Option.bind_some, Option.bind_some, if_neg (by simp)]
    rw [allowed_eq l5 a16 (K + 1) (by omega) (by omega), rallowed_eq l5 a16 (K + 1) (by omega) (by omega)]
    rw [Option.bind_some, Option.bind_some, if_neg (by simp)]
    rw [link_eq a17 a16 l6 (K + 1) (by omega) n7 (by omega), rlink_eq a17 a16 l6 (K + 1) (by omega) n7 (by omega)]
    rw [Option.bind_some, Option.bind_some]
    simp only [messuagelaw20_PolicyAsks.j0]
    rw [if_neg (by simp)]
    exact asks_l0 a16 l6 (by omega) n7 _ _ _ _ _ _ _ _ _ _ _ _ _ _ _ _ _ _ _ _ _ _ _ l6.length K 0 (by omega) (by omega) (by omega)
  · rfl
end Go.Proofs.YtbkhkdadipigfaaDoor.PureQ
