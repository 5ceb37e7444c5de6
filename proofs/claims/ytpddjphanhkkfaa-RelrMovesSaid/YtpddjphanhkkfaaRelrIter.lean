/- The iterator relr.places and its closure: what comes, whatever the loop's body does. -/
import Derived.RangeFuncNested
import Derived.RangeFuncBox
import Derived.RangeFuncBound
import Derived.RangeFuncCalls
import Derived.RangeFuncLeaves
import Derived.Shelf.Abstract
import Derived.Shelf.RegionOpen
import Derived.WalkKit
import Derived.OwnWalkIn
import Derived.TacticsInMore
import Derived.LoopNIn
import Derived.LoopIn
import Derived.Maps.AppendAt
import Derived.Lib.Hide
import Derived.Test.YtpddjphanhkkfaaProg
namespace Go.Proofs.Ytpddjphanhkkfaa.RelrIter
open Go.RowKit Go.Shelf Go.Proofs
attribute [local go_sem] Oper.semAt_some

/-- What comes of the first k bits. -/
def upto (row frm : Int) : Nat → List Int
  | 0 => []
  | k + 1 => if bits BinOp.and IntKind.u64 (row / 2 ^ (k + 1)) 1 = 1 then upto row frm k ++ [IntKind.u64.wrap (frm + 8 * k)] else upto row frm k
theorem upto_yes (row frm : Int) (k : Nat) (h : bits BinOp.and IntKind.u64 (row / 2 ^ (k + 1)) 1 = 1) : upto row frm (k + 1) = upto row frm k ++ [IntKind.u64.wrap (frm + 8 * k)] := by
  rw [upto, if_pos h]
theorem upto_no (row frm : Int) (k : Nat) (h : ¬ bits BinOp.and IntKind.u64 (row / 2 ^ (k + 1)) 1 = 1) : upto row frm (k + 1) = upto row frm k := by
  rw [upto, if_neg h]
theorem upto_pre (row frm : Int) {j k : Nat} (h : j ≤ k) : upto row frm j <+: upto row frm k := by
  induction h with
  | refl => exact List.prefix_refl _
  | step _ ih =>
    rw [upto]
    split
    · exact ih.trans (List.prefix_append _ _)
    · exact ih

theorem upto_len (row frm : Int) : ∀ k, (upto row frm k).length ≤ k
  | 0 => Nat.le_refl _
  | k + 1 => by
    unfold upto
    have := upto_len row frm k
    split <;> simp <;> omega

/-- The two captured variables lie as they lay. -/
def Same (B : Nat) (W W' : World) : Prop := W'.heap[B]? = W.heap[B]? ∧ W'.heap[B + 1]? = W.heap[B + 1]?
theorem Same.refl (B : Nat) (W : World) : Same B W W := ⟨rfl, rfl⟩
theorem Same.trans {B : Nat} {X Y Z : World} (h : Same B X Y) (k : Same B Y Z) : Same B X Z := ⟨k.1.trans h.1, k.2.trans h.2⟩

set_option maxRecDepth 100000 in
set_option maxHeartbeats 1000000 in
theorem places1_in (F : Fence) (n : Nat) (h41 : F.fn 41) (hro : F.round = none) (hn : 1 ≤ n) (l B : Nat) (row frm : Int) (J Jx : List Int → World → Prop)
    (hY : ∀ pre x W, J pre W → pre.length < 63 → YieldAt F (n - 1) Try.prog l #[.int .u64 x] W fun e W' =>
      (e = .returned (.bool true) ∧ J (pre ++ [x]) W' ∧ Same B W W') ∨ (e = .returned (.bool false) ∧ Jx (pre ++ [x]) W'))
    (W : World) (hrow : W.cell? ⟨B, 0, none⟩ = some (.int .u64 row)) (hfrm : W.cell? ⟨B + 1, 0, none⟩ = some (.int .u64 frm)) (h0 : J [] W) :
    CallsIn F n Try.prog 41 #[.func (.yield l) #[] #[], .pointer (some ⟨B, 0, none⟩), .pointer (some ⟨B + 1, 0, none⟩)] W fun e W' => (∃ v, e = .returned v) ∧
      ((∃ ys, ys = upto row frm 63 ∧ J ys W') ∨ (∃ pre, pre <+: upto row frm 63 ∧ Jx pre W')) := by
  refine callsIn_of_wp Try.func41 rfl h41 ?_ hro
  simp only [Try.ntmps41, List.size_toArray, List.length_cons, List.length_nil, Nat.reduceAdd, Nat.reduceSub, Array.replicate_succ, Array.replicate_zero, List.push_toArray, List.append_toArray, List.nil_append, List.cons_append]
  gi_wp2
  gi_loopw [5] (fun i wr => ∃ k : Nat, k ≤ 63 ∧ i = .int .u64 k ∧ Same B W wr ∧ J (upto row frm k) wr) (fun i _ => 63 - (intOf i).toNat)
  case atStart => exact ⟨0, by omega, rfl, Same.refl _ _, h0⟩
  case round =>
    obtain ⟨k, hk, rfl, hB, hJ⟩ := hrel
    have hr : wr.cell? ⟨B, 0, none⟩ = some (.int .u64 row) := (World.cell?_of_block hB.1).trans hrow
    have hf : wr.cell? ⟨B + 1, 0, none⟩ = some (.int .u64 frm) := (World.cell?_of_block hB.2).trans hfrm
    by_cases hlt : k < 63
    · by_cases hb : bits BinOp.and IntKind.u64 (row / 2 ^ (k + 1)) 1 = 1
      · have hlen := upto_len row frm k
        obtain ⟨fn, tmps, assign, body, hy, hR⟩ := hY (upto row frm k) (IntKind.u64.wrap (frm + 8 * ↑k)) wr hJ (by omega)
        have hU := Lib.hid (upto_yes row frm k hb)
        gi_wp2
        refine hR.mono ?_
        rintro e W3 (⟨rfl, hJ3, hk3⟩ | ⟨rfl, hJx3⟩)
        · gi_wp2
          go_roundw
          case rel => exact ⟨k + 1, by omega, by go_num, hB.trans hk3, by rw [hU.out]; exact hJ3⟩
          case measure => simp [intOf]; omega
        · gi_wp2
          refine bodyPost_ret (results_none rfl _ _ _) rfl ?_
          exact ⟨⟨_, rfl⟩, .inr ⟨_, by rw [← hU.out]; exact upto_pre row frm (by omega), hJx3⟩⟩
      · have hU := Lib.hid (upto_no row frm k hb)
        gi_wp2
        refine ⟨fun _ h => (by cases h), ?_⟩
        gi_wp2
        go_roundw
        case rel => exact ⟨k + 1, by omega, by go_num, hB, by rw [hU.out]; exact hJ⟩
        case measure => simp [intOf]; omega
    · obtain rfl : k = 63 := by omega
      gi_wp2
      go_end0
      exact ⟨⟨_, rfl⟩, .inl ⟨_, rfl, hJ⟩⟩

set_option maxHeartbeats 1000000 in
theorem places_in (F : Fence) (n : Nat) (h32 : F.fn 32) (hro : F.round = none) (row frm : Int) (w : World) :
    CallsIn F n Try.prog 32 #[.int .u64 row, .int .u64 frm] w fun e w' => e = .returned (.func (.func 41) #[] #[.pointer (some ⟨w.heap.size, 0, none⟩), .pointer (some ⟨w.heap.size + 1, 0, none⟩)]) ∧ w' = (w.alloc (.cells #[.int .u64 row] 23)).alloc (.cells #[.int .u64 frm] 23) := by
  refine callsIn_of_wp Try.func32 rfl h32 ?_ hro
  simp only [Try.ntmps32, List.size_toArray, List.length_cons, List.length_nil, Nat.reduceAdd, Nat.reduceSub, Array.replicate_succ, Array.replicate_zero, List.push_toArray, List.append_toArray, List.nil_append, List.cons_append]
  gi_wp2
  go_ret
  exact ⟨rfl, rfl⟩

theorem places_stops (F : Fence) (n : Nat) (h41 : F.fn 41) (hro : F.round = none) (hn : 1 ≤ n) (B : Nat) (row frm : Int) (w : World) (hB : B + 1 < w.heap.size)
    (hrow : w.cell? ⟨B, 0, none⟩ = some (.int .u64 row)) (hfrm : w.cell? ⟨B + 1, 0, none⟩ = some (.int .u64 frm)) :
    SeqStopsK F n Try.prog 41 #[.pointer (some ⟨B, 0, none⟩), .pointer (some ⟨B + 1, 0, none⟩)] (fun x : Int => #[Value.int .u64 x]) (Same B) (fun ys => ys = upto row frm 63) (fun pre => pre <+: upto row frm 63) 63 w := fun l J Jx W hW _ _ hY h0 =>
  places1_in F n h41 hro hn l B row frm J Jx hY W ((hW.cell (p := ⟨B, 0, none⟩) (by show B < _; omega)).trans hrow) ((hW.cell (p := ⟨B + 1, 0, none⟩) hB).trans hfrm) h0
end Go.Proofs.Ytpddjphanhkkfaa.RelrIter
