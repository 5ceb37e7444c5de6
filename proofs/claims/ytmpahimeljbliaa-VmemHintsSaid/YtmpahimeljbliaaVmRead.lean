/- An address space is looked at: where rooms end, gaps, the room of a place. No condition but that the space lies in memory as told. -/
import Derived.Test.YtmpahimeljbliaaVmBase
import Derived.Tactics
import Derived.WalkKit
import Derived.KernelRfl
import Derived.Deep.QuietTactic
import Derived.BigQuiet
import Derived.LoopTactic
import Derived.Outline
namespace Go.Proofs.Ytmpahimeljbliaa.Vm
open Go.RowKit Go.Proofs Go.Proofs.YtmpahimeljbliaaW.PrintWords

set_option maxRecDepth 100000 in
theorem end_in (r : Rm) (w : World) (h0 : w.cell? ⟨r.b, 0, none⟩ = some (.int .u64 r.at_)) (h1 : w.cell? ⟨r.b, 1, none⟩ = some (.slice (some ⟨r.ab, 0, none⟩) r.ps.length r.ps.length)) (hf : r.fin ≤ 1099511627776) :
    Calls Try.prog 92 #[.pointer (some ⟨r.b, 0, none⟩)] w fun e w' => e = .returned (.int .u64 r.fin) ∧ ∃ n, w' = w.drewN n := by
  have hb : r.at_ + r.ps.length * 256 ≤ 1099511627776 := hf
  have HF := Aside0.mk hf
  clear hf
  go_enter Try.func92, Try.ntmps92
  go_wp2
  go_quiet (fail)
  go_wp2
  go_ret
  exact ⟨by simp [Rm.fin], _, rfl⟩
set_option maxRecDepth 100000 in
/-- Does a room begin behind a place? -/
theorem test_in {w : World} {own : Nat → Option Role} {base a : Nat} {v : Value} {s : Sp} (h : Holds w own base a v s) (g1 g2 x i : Nat) (hx : x ≤ 18446744073709551615) (h1 : w.cell? ⟨g1, 0, none⟩ = some (.pointer (some ⟨a, 0, none⟩))) (h2 : w.cell? ⟨g2, 0, none⟩ = some (.int .u64 x)) (hi : i < s.rs.length) :
    Calls Try.prog 94 #[.int .i64 i, .pointer (some ⟨g1, 0, none⟩), .pointer (some ⟨g2, 0, none⟩)] w fun e w' => e = .returned (.bool (decide (behind x s.rs ≤ i))) ∧ ∃ n, w' = w.drewN n := by
  obtain ⟨A, c, rfl, hc⟩ := h.slice
  have hs := h.s2
  have hl := h.good.len
  obtain ⟨ad, rfl, hp⟩ := (h.rows).2 i _ (List.getElem?_eq_getElem hi)
  have hr := h.r0 (List.getElem?_eq_getElem hi)
  have hd : Aside0 (decide (x < s.rs[i].at_) = decide (behind x s.rs ≤ i)) := ⟨by rw [decide_eq_decide]; exact h.good.behind_iff x (List.getElem?_eq_getElem hi)⟩
  have hq : s.rs[i].fin ≤ 1099511627776 := (h.good.rm _ (List.getElem_mem hi)).hi
  have hq2 : s.rs[i].at_ ≤ 1099511627776 := by unfold Rm.fin at hq; omega
  have i0 : (0 : Int) ≤ (i : Int) := by omega
  have i1 : (i : Int) < (s.rs.length : Int) := by omega
  clear h hq
  go_enter Try.func94, Try.ntmps94
  go_wp2
  go_quiet (fail)
  go_wp2
  go_ret
  exact ⟨by rw [← hd.out]; rfl, _, rfl⟩
set_option maxRecDepth 100000 in
theorem search_in {w : World} {own : Nat → Option Role} {base a : Nat} {v : Value} {s : Sp} (h : Holds w own base a v s) (g1 g2 x : Nat) (hx : x ≤ 18446744073709551615) (h1 : w.cell? ⟨g1, 0, none⟩ = some (.pointer (some ⟨a, 0, none⟩))) (h2 : w.cell? ⟨g2, 0, none⟩ = some (.int .u64 x)) :
    Calls Try.prog 93 #[.int .i64 s.rs.length, .func (.func 94) #[] #[.pointer (some ⟨g1, 0, none⟩), .pointer (some ⟨g2, 0, none⟩)]] w fun e w' => e = .returned (.int .i64 (behind x s.rs)) ∧ ∃ n, w' = w.drewN n := by
  have hb := behind_le x s.rs
  have hl := h.good.len
  obtain ⟨m, hm⟩ : ∃ m, m = behind x s.rs := ⟨_, rfl⟩
  have hT : Aside0 (∀ (k i : Nat), i < s.rs.length → Calls Try.prog 94 #[.int .i64 i, .pointer (some ⟨g1, 0, none⟩), .pointer (some ⟨g2, 0, none⟩)] (w.drewN k) fun e w' => e = .returned (.bool (decide (m ≤ i))) ∧ ∃ n, w' = (w.drewN k).drewN n) :=
    ⟨fun k i hi => by rw [hm]; exact test_in (h.drewN k) g1 g2 x i hx h1 h2 hi⟩
  rw [← hm] at hb ⊢
  clear hm h h1 h2
  obtain ⟨n, hn⟩ : ∃ n, n = s.rs.length := ⟨_, rfl⟩
  rw [← hn] at hT hb hl ⊢
  clear hn
  go_enter Try.func93, Try.ntmps93
  go_wp2
  go_loopw [5, 6] (fun i j wr => ∃ lo hi k : Nat, i = .int .i64 lo ∧ j = .int .i64 hi ∧ lo ≤ m ∧ m ≤ hi ∧ hi ≤ n ∧ wr = w.drewN k) (fun i j _ => (intOf j).toNat - (intOf i).toNat)
  case atStart => exact ⟨0, n, 0, rfl, rfl, by omega, hb, by omega, rfl⟩
  case round =>
    obtain ⟨lo, hi, k, rfl, rfl, h1, h2, h3, rfl⟩ := hrel
    by_cases hlt : lo < hi
    · by_cases hm : m ≤ (lo + hi) / 2
      · have HQ : Calls Try.prog 94 #[.int .i64 (((lo : Int) + (hi : Int)) / 2), .pointer (some ⟨g1, 0, none⟩), .pointer (some ⟨g2, 0, none⟩)] (w.drewN k) fun e w' => e = .returned (.bool true) ∧ ∃ n, w' = (w.drewN k).drewN n := by
          have := hT.out k ((lo + hi) / 2) (by omega)
          rwa [decide_eq_true hm, show (((lo + hi) / 2 : Nat) : Int) = ((lo : Int) + (hi : Int)) / 2 from by omega] at this
        go_wp2_with (go_at_call 94; (with_reducible refine HQ.mono ?_); rintro _ _ ⟨rfl, k', rfl⟩; clear HQ)
        go_roundw
        case rel => exact ⟨lo, (lo + hi) / 2, k + k', rfl, by congr 1, h1, hm, by omega, by simp [World.drewN_drewN]⟩
        case measure => simp [intOf]; omega
      · have HQ : Calls Try.prog 94 #[.int .i64 (((lo : Int) + (hi : Int)) / 2), .pointer (some ⟨g1, 0, none⟩), .pointer (some ⟨g2, 0, none⟩)] (w.drewN k) fun e w' => e = .returned (.bool false) ∧ ∃ n, w' = (w.drewN k).drewN n := by
          have := hT.out k ((lo + hi) / 2) (by omega)
          rwa [decide_eq_false hm, show (((lo + hi) / 2 : Nat) : Int) = ((lo : Int) + (hi : Int)) / 2 from by omega] at this
        go_wp2_with (go_at_call 94; (with_reducible refine HQ.mono ?_); rintro _ _ ⟨rfl, k', rfl⟩; clear HQ)
        go_roundw
        case rel => exact ⟨(lo + hi) / 2 + 1, hi, k + k', by congr 1, rfl, by omega, h2, by omega, by simp [World.drewN_drewN]⟩
        case measure => simp [intOf]; omega
    · obtain rfl : lo = m := by omega
      go_wp2
      go_ret
      exact ⟨rfl, _, rfl⟩
set_option maxRecDepth 100000 in
theorem behind_in {w : World} {own : Nat → Option Role} {base a : Nat} {v : Value} {s : Sp} (h : Holds w own base a v s) (x : Nat) (hx : x ≤ 18446744073709551615) :
    Calls Try.prog 77 #[.pointer (some ⟨a, 0, none⟩), .int .u64 x] w fun e w' => e = .returned (.int .i64 (behind x s.rs)) ∧ Below w.heap.size w w' := by
  obtain ⟨A, c, rfl, hc⟩ := h.slice
  have h2 := h.s2
  have hz := h.sp.lt
  have HH := Aside0.mk h
  clear h hc
  go_enter Try.func77, Try.ntmps77
  go_wp2_with fail
  have HQ := search_in (HH.out.below (w' := (w.alloc (.cells #[.pointer (some ⟨a, 0, none⟩)] 55)).alloc (.cells #[.int .u64 (x : Int)] 28)) (below_alloc (below_alloc (Below.refl _ _) _) _)) w.heap.size (w.heap.size + 1) x hx (by simp [go_sem]) (by simp [go_sem])
  (with_reducible refine HQ.mono ?_)
  rintro _ _ ⟨rfl, k, rfl⟩
  clear HQ
  go_wp2
  go_ret
  exact ⟨rfl, pw_below_drewN (below_alloc (below_alloc (Below.refl _ _) _) _) k⟩

set_option maxRecDepth 100000 in
theorem sub_in (x y : Nat) (w : World) (hx : x ≤ 18446744073709551615) (hy : y ≤ 18446744073709551615) :
    Calls Try.prog 91 #[.int .u64 x, .int .u64 y] w fun e w' => e = .returned (.tuple #[.int .u64 ((x - y : Nat) : Int), .bool (decide (y ≤ x))]) ∧ ∃ n, w' = w.drewN n := by
  by_cases c : y ≤ x
  · rw [decide_eq_true c]
    go_enter Try.func91, Try.ntmps91
    go_wp2
    try go_quiet (fail)
    try go_wp2
    go_ret2
    exact ⟨by rw [show ((x - y : Nat) : Int) = (x : Int) - (y : Int) from by omega]; rfl, 0, rfl⟩
  · rw [decide_eq_false c]
    go_enter Try.func91, Try.ntmps91
    go_wp2
    go_ret2
    exact ⟨by rw [show ((x - y : Nat) : Int) = 0 from by omega]; rfl, 0, rfl⟩
set_option maxRecDepth 100000 in
theorem inside_in (x z f r : Nat) (w : World) (hx : x ≤ 18446744073709551615) (hz : z ≤ 18446744073709551615) (hf : f ≤ 18446744073709551615) (hr : r ≤ 18446744073709551615) :
    Calls Try.prog 73 #[.int .u64 x, .int .u64 z, .int .u64 f, .int .u64 r] w fun e w' => e = .returned (.bool (decide (f ≤ x ∧ x - f ≤ r ∧ z ≤ r - (x - f)))) ∧ ∃ n, w' = w.drewN n := by
  have HQ := sub_in x f w hx hf
  by_cases c1 : f ≤ x
  · rw [decide_eq_true c1] at HQ
    obtain ⟨d, hd⟩ : ∃ d, d = x - f := ⟨_, rfl⟩
    rw [← hd] at HQ ⊢
    have hd2 : d ≤ 18446744073709551615 := by omega
    clear hd
    by_cases c2 : d ≤ r
    · by_cases c3 : z ≤ r - d
      · rw [decide_eq_true ⟨c1, c2, c3⟩]
        go_enter Try.func73, Try.ntmps73
        go_wp2_with (go_at_call 91; (with_reducible refine HQ.mono ?_); rintro _ _ ⟨rfl, k, rfl⟩; clear HQ)
        go_ret
        exact ⟨by show Ending.returned (.bool (decide ((z : Int) ≤ (r : Int) - (d : Int)))) = _; rw [decide_eq_true (by omega)], _, rfl⟩
      · rw [decide_eq_false (fun h => c3 h.2.2)]
        go_enter Try.func73, Try.ntmps73
        go_wp2_with (go_at_call 91; (with_reducible refine HQ.mono ?_); rintro _ _ ⟨rfl, k, rfl⟩; clear HQ)
        go_ret
        exact ⟨by show Ending.returned (.bool (decide ((z : Int) ≤ (r : Int) - (d : Int)))) = _; rw [decide_eq_false (by omega)], _, rfl⟩
    · rw [decide_eq_false (fun h => c2 h.2.1)]
      have b2 : decide (d ≤ r) = false := decide_eq_false c2
      go_enter Try.func73, Try.ntmps73
      go_wp2_with (go_at_call 91; (with_reducible refine HQ.mono ?_); rintro _ _ ⟨rfl, k, rfl⟩; clear HQ)
      go_ret
      exact ⟨rfl, _, rfl⟩
  · rw [decide_eq_false c1] at HQ
    rw [decide_eq_false (fun h => c1 h.1)]
    go_enter Try.func73, Try.ntmps73
    go_wp2_with (go_at_call 91; (with_reducible refine HQ.mono ?_); rintro _ _ ⟨rfl, k, rfl⟩; clear HQ)
    go_ret
    exact ⟨rfl, _, rfl⟩
set_option maxRecDepth 100000 in
theorem pages_in (x : Nat) (w : World) (hx : x ≤ 18446744073709551615) :
    Calls Try.prog 95 #[.int .u64 x] w fun e w' => e = .returned (.int .u64 (pagesN x)) ∧ ∃ n, w' = w.drewN n := by
  have p1 : x % 256 ≤ 1 → (pagesN x : Int) = (x : Int) / 256 + (x : Int) % 256 := fun h => by unfold pagesN; omega
  have p2 : 1 ≤ x % 256 → (pagesN x : Int) = (x : Int) / 256 + 1 := fun h => by unfold pagesN; omega
  have P1 := Aside0.mk p1
  have P2 := Aside0.mk p2
  clear p1 p2
  go_enter Try.func95, Try.ntmps95
  go_wp2
  all_goals go_ret
  all_goals refine ⟨?_, 0, rfl⟩
  all_goals first
    | (show Ending.returned (.int .u64 ((x : Int) / 256 + (x : Int) % 256)) = _; rw [P1.out (by omega)])
    | (show Ending.returned (.int .u64 ((x : Int) / 256 + 1)) = _; rw [P2.out (by omega)])
end Go.Proofs.Ytmpahimeljbliaa.Vm
