/- An empty space is made; how many pages are taken. No condition but that the space lies in memory as told. -/
import Derived.Test.YtmpahimeljbliaaVmPut
namespace Go.Proofs.Ytmpahimeljbliaa.Vm
open Go.RowKit Go.Proofs Go.Proofs.YtmpahimeljbliaaW.PrintWords

def empty (b : Nat) : Sp := ⟨b, 0, []⟩
theorem built_space (b : Int) : Try.prog.built 113 [(0, .int .i64 b)] = some #[.int .i64 b, .int .i64 0, .slice none 0 0] := by kernel_rfl
theorem new_bad (b : Int) (w : World) (h : b < 1 ∨ b > 1024) : Calls Try.prog 24 #[.int .i64 b] w fun e w' => e = .returned (.tuple #[.pointer none, .int .i64 51]) ∧ w = w' := by
  rcases h with h | h
  · go_enter Try.func24, Try.ntmps24
    go_wp2
    go_ret2
    exact ⟨rfl, rfl⟩
  · have h0 : ¬ b < 1 := by omega
    go_enter Try.func24, Try.ntmps24
    go_wp2
    go_ret2
    exact ⟨rfl, rfl⟩
theorem new_holds (b : Nat) (h1 : 1 ≤ b) (h2 : b ≤ 1024) (w : World) (base : Nat) (hb : base ≤ w.heap.size) :
    Holds (w.alloc (.cells #[.int .i64 b, .int .i64 0, .slice none 0 0] 113)) (fun k => if k = w.heap.size then some .space else none) base w.heap.size (.slice none 0 0) (empty b) :=
  ⟨Blk.new w _ _, if_pos rfl, .inl (own_nil _ _ _ _), fun k hk => by simp [Value.ownBlock] at hk, fun i r hr => by simp [empty] at hr, fun i r hr => by simp [empty] at hr, fun i r hr => by simp [empty] at hr, fun k hk => by
    replace hk : (if k = w.heap.size then some Role.space else none) ≠ none := hk
    by_cases e : k = w.heap.size
    · exact ⟨by omega, by simp; omega⟩
    · rw [if_neg e] at hk
      exact absurd rfl hk, ⟨h1, h2, rfl, Nat.zero_le _, List.Pairwise.nil, fun r hr => by cases hr⟩⟩
theorem new_in (b : Nat) (h1 : 1 ≤ b) (h2 : b ≤ 1024) (w : World) : Calls Try.prog 24 #[.int .i64 b] w fun e w' => e = .returned (.tuple #[.pointer (some ⟨w.heap.size, 0, none⟩), .int .i64 0]) ∧ w' = w.alloc (.cells #[.int .i64 b, .int .i64 0, .slice none 0 0] 113) := by
  go_enter Try.func24, Try.ntmps24
  go_wp2
  go_ret2
  exact ⟨rfl, rfl⟩
theorem used_in {w : World} {own : Nat → Option Role} {base a : Nat} {v : Value} {s : Sp} (h : Holds w own base a v s) : Calls Try.prog 28 #[.pointer (some ⟨a, 0, none⟩)] w fun e w' => e = .returned (.int .i64 s.used) ∧ w = w' := by
  have h1 := h.s1
  clear h
  go_enter Try.func28, Try.ntmps28
  go_wp2
  go_ret
  exact ⟨rfl, rfl⟩
end Go.Proofs.Ytmpahimeljbliaa.Vm
