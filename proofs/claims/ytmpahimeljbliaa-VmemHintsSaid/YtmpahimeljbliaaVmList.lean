/- What a space has, told: its rooms, its pages. No condition but that the space lies in memory as told. -/
import Derived.Test.YtmpahimeljbliaaVmReads
import Derived.Test.YtmpahimeljbliaaVmPut
import Derived.StillTailTactics
namespace Go.Proofs.Ytmpahimeljbliaa.Vm
open Go.RowKit Go.Proofs Go.Proofs.YtmpahimeljbliaaW.PrintWords

def cellsG (r : Rm) : List Value := [.int .u64 r.at_, .int .i64 r.ps.length]
theorem info87 : (Try.prog.info? 87).map (fun i => (i.zero, i.size, i.bytes)) = some (some (.agg #[.int .u64 0, .int .i64 0]), 2, 16) := by kernel_rfl
theorem info90 : (Try.prog.info? 90).map (fun i => (i.zero, i.size, i.bytes)) = some (some (.agg (cellsP ⟨0, 0, 0, List.replicate 256 0⟩)), 258, 272) := by kernel_rfl
theorem take_flat {α β : Type} (f : α → List β) (l : List α) (k : Nat) (x : α) (hk : l[k]? = some x) : (l.take (k + 1)).flatMap f = (l.take k).flatMap f ++ f x := by
  rw [List.take_add_one, hk]
  simp
set_option maxRecDepth 100000 in
set_option maxHeartbeats 2000000 in
theorem regions_in {w : World} {own : Nat → Option Role} {base a : Nat} {v : Value} {s : Sp} (h : Holds w own base a v s) :
    Calls Try.prog 37 #[.pointer (some ⟨a, 0, none⟩)] w fun e w' => ∃ v', e = .returned v' ∧ w'.ownsRow w.heap.size 87 2 v' s.rs.length (s.rs.flatMap cellsG) ∧ Below w.heap.size w w' := by
  obtain ⟨A, c, rfl, hc⟩ := h.slice
  have hlen := h.good.len
  have HH := Aside0.mk h
  have h2 := h.s2
  obtain ⟨n, hn⟩ : ∃ n, n = s.rs.length := ⟨_, rfl⟩
  rw [← hn] at h2 hlen
  have HN := Aside0.mk hn
  clear h
  go_enter Try.func37, Try.ntmps37
  go_wp2
  clear h2
  go_loopw [3, 11] (fun d i wr => ∃ (k : Nat), i = .int .i64 k ∧ k ≤ n ∧ Aside0 (wr.ownsRow w.heap.size 87 2 d k ((s.rs.take k).flatMap cellsG)) ∧ Aside0 (Below w.heap.size w wr)) (fun _ i _ => n - (intOf i).toNat)
  case atStart => exact ⟨0, rfl, Nat.zero_le _, ⟨own_nil _ _ _ _⟩, ⟨Below.refl _ _⟩⟩
  case round =>
    obtain ⟨k, rfl, hk, HO, HB⟩ := hrel
    by_cases hlt : k < n
    · obtain ⟨r, hr⟩ : ∃ r, s.rs[k]? = some r := ⟨s.rs[k]'(by rw [← HN.out]; exact hlt), List.getElem?_eq_getElem _⟩
      have hW := HH.out.below HB.out
      obtain ⟨-, hrows⟩ := hW.rows
      obtain ⟨ad, rfl, hcell⟩ := hrows k r hr
      have hr0 := hW.r0 hr
      have hr1 := hW.r1 hr
      have HR := Aside0.mk hr
      have hrl : r.ps.length ≤ 64 := (HH.out.good.rm r (List.mem_of_getElem? hr)).l2
      obtain ⟨m, hm⟩ : ∃ m, m = r.ps.length := ⟨_, rfl⟩
      rw [← hm] at hr1 hrl
      have HM := Aside0.mk hm
      clear hr hW hrows hm
      go_wp2
      have hmv : ∀ W : World, Below wr.heap.size wr W → W.ownsRow w.heap.size 87 2 u3 k ((s.rs.take k).flatMap cellsG) := fun W hB => own_move HO.out (fun q hq => hB.block q (own_lt HO.out q hq))
      have HMV := Aside0.mk hmv
      have hsz : w.heap.size ≤ wr.heap.size := HB.out.size
      clear hmv
      obtain ⟨i0, hi⟩ := info_parts info87
      have HI := Aside0.mk hi
      have HC := Aside0.mk (show [Value.int .u64 (r.at_ : Int), .int .i64 (m : Int)] = cellsG r from by rw [HM.out]; rfl)
      clear hi
      go_region_law (refine step_append_lies _ (by rfl) (.tmp 15) (.tmp 26) 84 (by rfl) w.heap.size 87 i0 (.agg #[.int .u64 0, .int .i64 0]) 2 16 Try.underlying84 HI.out.1 HI.out.2.1 HI.out.2.2.1 HI.out.2.2.2 rfl (by decide) u3 k ((s.rs.take k).flatMap cellsG) (by rfl) (HMV.out _ (below_alloc (below_drew1 (Below.refl _ _)) _)) ⟨wr.heap.size, 0, none⟩ 1 1 [.int .u64 (r.at_ : Int), .int .i64 (m : Int)] (by rfl) (by rfl) (fun j u hu => by rw [add_plain]; exact (Blk.new wr.drew _ 87).cell j u (by rw [← List.getElem?_toArray] at hu; exact hu)) (by simp [Value.oneCell']) (by decide) (by unfold maxLen; omega) (by omega) (by simp; omega) _ (by rfl) ?_; intro g1 c1 w1 ho1 hg1 hb1 hlt1; have HO1 := Aside0.mk ho1; have HB1 := Aside0.mk ((below_alloc (below_drew1 HB.out) _).grown hg1 (by simp; omega) (fun q hq => own_base HO.out q hq)); clear ho1 hg1 hb1 hlt1)
      all_goals go_wp2
      all_goals go_round
      case rel => exact ⟨k + 1, by go_num, by omega, ⟨by rw [take_flat cellsG _ k r HR.out, ← HC.out]; exact HO1.out⟩, HB1⟩
      case measure => simp [intOf]; omega
      case rel => exact ⟨k + 1, by go_num, by omega, ⟨by rw [take_flat cellsG _ k r HR.out, ← HC.out]; exact HO1.out⟩, HB1⟩
      case measure => simp [intOf]; omega
    · obtain rfl : k = n := by omega
      go_wp2
      go_ret
      exact ⟨_, rfl, by have := HO.out; rw [HN.out, List.take_length] at this; exact this, HB.out⟩
end Go.Proofs.Ytmpahimeljbliaa.Vm
