/- Pages come by where they are, each in its room. No condition but that the space is a good one. -/
import Derived.Test.YtmpahimeljbliaaVmRows
namespace Go.Proofs.Ytmpahimeljbliaa.Vm
theorem page_in {r : Rm} (hr : r.Good) {k : Nat} {g : Pg} (hk : r.ps[k]? = some (some g)) : g.at_ = r.at_ + 256 * k ∧ r.at_ ≤ g.at_ ∧ g.at_ < r.fin ∧ g.at_ % 256 = 0 := by
  have h1 := (hr.pg k g hk).1
  have h2 : k < r.ps.length := (List.getElem?_eq_some_iff.1 hk).1
  have h3 := hr.al
  have h4 : r.fin = r.at_ + r.ps.length * 256 := rfl
  exact ⟨h1, by omega, by omega, by omega⟩
theorem row_sorted (at0 : Nat) : ∀ (ps : List (Option Pg)) (k : Nat), (∀ (i : Nat) (g : Pg), ps[i]? = some (some g) → g.at_ = at0 + 256 * (k + i)) → (ps.filterMap id).Pairwise (fun p g => p.at_ < g.at_)
  | [], _, _ => List.Pairwise.nil
  | x :: ps, k, h => by
    have ih := row_sorted at0 ps (k + 1) (fun i g hg => by have := h (i + 1) g (by simpa using hg); omega)
    cases x with
    | none => simpa using ih
    | some p =>
      have e : (some p :: ps).filterMap id = p :: ps.filterMap id := rfl
      rw [e]
      refine List.Pairwise.cons (fun g hg => ?_) ih
      obtain ⟨y, hy, ey⟩ := List.mem_filterMap.1 hg
      obtain ⟨i, hi⟩ := List.mem_iff_getElem?.1 hy
      have h0 := h 0 p rfl
      have h1 := h (i + 1) g (by rw [List.getElem?_cons_succ, hi]; exact congrArg some ey)
      omega
theorem rooms_sorted : ∀ (l : List Rm), (∀ r ∈ l, r.Good) → l.Pairwise (fun r q => r.fin ≤ q.at_) → (pgsOf l).Pairwise (fun p g => p.at_ < g.at_)
  | [], _, _ => List.Pairwise.nil
  | r :: l, hg, hp => by
    have ih := rooms_sorted l (fun q hq => hg q (List.mem_cons_of_mem _ hq)) (List.pairwise_cons.1 hp).2
    have hr := hg r List.mem_cons_self
    rw [show pgsOf (r :: l) = pgsR r ++ pgsOf l from rfl]
    refine List.pairwise_append.2 ⟨row_sorted r.at_ r.ps 0 (fun i g h => by have := (hr.pg i g h).1; omega), ih, fun p hp1 g hg1 => ?_⟩
    obtain ⟨y, hy, ey⟩ := List.mem_filterMap.1 hp1
    obtain ⟨i, hi⟩ := List.mem_iff_getElem?.1 hy
    have h1 := page_in hr (k := i) (g := p) (by rw [hi]; exact congrArg some ey)
    obtain ⟨q, hq, k, hk⟩ := pgs_mem hg1
    have h2 := page_in (hg q (List.mem_cons_of_mem _ hq)) hk
    have h3 := (List.pairwise_cons.1 hp).1 q hq
    omega
theorem pgs_sorted {s : Sp} (h : s.Good) {i : Nat} {p g : Pg} (hp : (pgsOf s.rs)[i]? = some p) (hg : (pgsOf s.rs)[i + 1]? = some g) : p.at_ < g.at_ := by
  have hs := rooms_sorted s.rs h.rm h.srt
  obtain ⟨h1, rfl⟩ := List.getElem?_eq_some_iff.1 hp
  obtain ⟨h2, rfl⟩ := List.getElem?_eq_some_iff.1 hg
  exact List.pairwise_iff_getElem.1 hs i (i + 1) h1 h2 (Nat.lt_succ_self i)
open Go.RowKit Go.Proofs Go.Proofs.YtmpahimeljbliaaW.PrintWords
theorem own_max {w : World} {base n size : Nat} {e : TypeId} {v : Value} {xs : List Value} (h : w.ownsRow base e size v n xs) : n ≤ 9223372036854775807 := by
  rcases h.2 with ⟨_, h0⟩ | ⟨g, cap, cur, hv, hb, hg, h1, h2, _⟩
  · omega
  · simp only [maxLen] at h2
    omega
end Go.Proofs.Ytmpahimeljbliaa.Vm
