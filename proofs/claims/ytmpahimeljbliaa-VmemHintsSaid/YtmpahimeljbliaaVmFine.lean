/- What stands between the law's calls, whatever they do. No condition beyond those of each lemma. -/
import Derived.Test.YtmpahimeljbliaaVmAlive
import Derived.StillTailTactics
import Derived.Test.YtmpahimeljbliaaVmRows
import Derived.Test.YtmpahimeljbliaaVmSort
namespace Go.Proofs.Ytmpahimeljbliaa.Vm
open Go.RowKit Go.Proofs Go.Proofs.YtmpahimeljbliaaW.PrintWords

structure Opn.Fine (p : Opn) : Prop where
  k1 : -9223372036854775808 ≤ p.kind
  k2 : p.kind ≤ 9223372036854775807
  r1 : -9223372036854775808 ≤ p.room
  r2 : p.room ≤ 9223372036854775807
  o2 : p.off ≤ 18446744073709551615
  s2 : p.size ≤ 18446744073709551615
  p1 : -9223372036854775808 ≤ p.prot
  p2 : p.prot ≤ 9223372036854775807
  h2 : p.hint ≤ 18446744073709551615
  bytes : ∀ b ∈ p.data, 0 ≤ b ∧ b ≤ 255
theorem Opn.Fine.ok {p : Opn} (h : p.Fine) (hl : p.data.length ≤ 2048) : p.Ok := ⟨h.k1, h.k2, h.r1, h.r2, h.o2, h.s2, h.p1, h.p2, h.h2, h.bytes, hl⟩
theorem bigF_no {l : List Opn} (h : bigF l = false) : l.length ≤ 60 ∧ ∀ p ∈ l, p.data.length ≤ 2048 := by
  unfold bigF at h
  rw [Bool.or_eq_false_iff] at h
  refine ⟨by have := of_decide_eq_false h.1; omega, fun p hp => ?_⟩
  have := List.any_eq_false.1 h.2 p hp
  simp at this
  exact this
theorem mods_budget (s : Sp) (j lo : Nat) (f : Nat → Pg → Pg) : ∀ n, (s.mods j lo f n).budget = s.budget
  | 0 => rfl
  | n + 1 => by rw [Sp.mods]; exact (by unfold Sp.mod; exact mods_budget s j lo f n)
theorem adds_budget (s : Sp) (j lo : Nat) (f : Nat → Pg) : ∀ n, (s.adds j lo f n).budget = s.budget
  | 0 => rfl
  | n + 1 => by rw [Sp.adds]; exact (by unfold Sp.add; exact adds_budget s j lo f n)
theorem write_budget (s : Sp) (x : Nat) (dl : List Int) : (writeF s x dl).1.budget = s.budget := by
  unfold writeF
  split
  · rfl
  · exact mods_budget _ _ _ _ _
theorem Done.budget {s s' : Sp} {x : Nat} {p : Opn} {hint : Nat} {o : Out} (h : Done s x p hint s' o) : s'.budget = s.budget := by
  rcases h with ⟨-, b, ab, rfl, -⟩ | ⟨-, nb, rfl, -⟩ | ⟨-, rfl, -⟩ | ⟨-, rfl, -⟩ | ⟨-, rfl, -⟩ | ⟨-, rfl, -⟩ | ⟨-, rfl, -⟩ | ⟨-, rfl, -⟩
  · unfold reserveF
    split
    · rfl
    · split <;> rfl
  · unfold mapF
    repeat' split
    all_goals first | rfl | exact adds_budget _ _ _ _ _
  · unfold protF
    repeat' split
    all_goals first | rfl | exact mods_budget _ _ _ _ _
  · unfold releaseF
    repeat' split
    all_goals rfl
  · rfl
  · exact write_budget _ _ _
  · rfl
  · exact write_budget _ _ _
theorem Done.at_le {s s' : Sp} (hs : s.Good) {x : Nat} {p : Opn} {hint : Nat} {o : Out} (h : Done s x p hint s' o) : o.at_ ≤ 18446744073709551615 := by
  rcases h with ⟨-, b, ab, -, rfl⟩ | ⟨-, nb, -, rfl⟩ | ⟨-, -, rfl⟩ | ⟨-, -, rfl⟩ | ⟨-, -, rfl⟩ | ⟨-, -, rfl⟩ | ⟨-, -, rfl⟩ | ⟨-, -, rfl⟩
  · show (reserveF s hint (p.size % 70) b ab).2.1 ≤ _
    unfold reserveF
    split
    · exact Nat.zero_le _
    · split
      · exact Nat.zero_le _
      · next h1 h2 =>
        have := place_ok hs hint (p.size % 70) (by omega) (by omega)
        show placeFor s hint (p.size % 70) ≤ _
        omega
  all_goals exact Nat.zero_le _
theorem info28 : (Try.prog.info? 28).map (fun i => (i.zero, i.size, i.bytes)) = some (some (.int .u64 0), 1, 8) := by kernel_rfl
/-- A call, wherever the variable for its answer has come in. -/
theorem St.call {w0 wr W : World} {own : Nat → Option Role} {a : Nat} {v : Value} {s : Sp} {A7 : Option Addr} {c7 : Nat} {rooms : List Nat} (h : St w0 wr own a v s (.slice A7 rooms.length c7) rooms) {ad : Addr} {p : Opn} {A6 : Option Addr} {c6 : Nat} (hat : OpAt w0 ad p A6 c6) (hok : p.Ok) (hl : rooms.length ≤ 100) (hint : Nat) (hh : hint ≤ 18446744073709551615) (hB : Below wr.heap.size wr W) :
    Calls Try.prog 27 #[.pointer (some ⟨a, 0, none⟩), .agg #[.int .i64 p.kind, .int .i64 p.room, .int .u64 p.off, .int .u64 p.size, .int .i64 p.prot, .int .u64 p.hint, .slice A6 p.data.length c6], .slice A7 rooms.length c7, .int .u64 hint] W fun e w' => ∃ (own' : Nat → Option Role) (v' : Value) (s' : Sp) (o : Out), e = .returned (.agg #[.int .i64 o.e, .string (strOfNums o.b), .int .u64 o.at_, .bool o.room]) ∧ Done s (placeF p rooms) p hint s' o ∧ St w0 w' own' a v' s' (.slice A7 rooms.length c7) rooms ∧ (∀ k, wr.heap.size ≤ k → k < W.heap.size → w'.heap[k]? = W.heap[k]? ∧ own' k = none) ∧ W.heap.size ≤ w'.heap.size := by
  have hS := h.below hB
  obtain ⟨A8, c8, e8, hr⟩ := hS.reads
  cases e8
  refine (done_in hS.hold p hok A6 c6 (hat.src hS.bel hS.hold) rooms A7 c7 hr h.le hl hint hh).mono ?_
  rintro _ w' ⟨own', v', s', o, rfl, hD, hH, ho, hK⟩
  refine ⟨own', v', s', o, rfl, hD, hS.kept hH ho hK, fun k h1 h2 => ?_, hK.bel.size⟩
  have hn : own k = none := Classical.byContradiction fun cc => by have := (h.hold.lt k cc).2; omega
  exact ⟨hK.kp k h2 hn, (ho k h2).trans hn⟩
theorem St.set {w0 W : World} {own : Nat → Option Role} {a : Nat} {v : Value} {s : Sp} {rv : Value} {rooms : List Nat} (h : St w0 W own a v s rv rooms) {g : Nat} (hg : w0.heap.size ≤ g) (ho : own g = none) (hr : rv.ownBlock ≠ some g) (j : Nat) (u : Value) : St w0 (W.setCell ⟨g, j, none⟩ u) own a v s rv rooms :=
  ⟨h.hold.keep (by rw [size_setCell]; exact Nat.le_refl _) (fun k hk => Below.heap_setCell W ⟨g, j, none⟩ u k (fun e => hk (by rw [show k = g from e]; exact ho))), h.bel.setCell (by show w0.heap.size ≤ g; exact hg) _, own_move h.row (fun k hk => Below.heap_setCell W ⟨g, j, none⟩ u k (fun e => hr (by rw [hk, show k = g from e]))), h.free, h.le⟩
theorem Holds.lens {w : World} {own : Nat → Option Role} {base a : Nat} {v : Value} {s : Sp} (h : Holds w own base a v s) : ∀ g ∈ pgsOf s.rs, g.data.length = 256 := fun g hg => by
  obtain ⟨r, hr, k, hk⟩ := pgs_mem hg
  exact ((h.good.rm r hr).ok hk).len
theorem total_snoc (l : List Rm) (k : Nat) (r : Rm) (h : l[k]? = some r) : total (l.take (k + 1)) = total (l.take k) + r.ps.length := by
  unfold total
  rw [List.take_add_one, h]
  simp
theorem total_take (l : List Rm) (k : Nat) : total (l.take k) ≤ total l := by
  conv => rhs; rw [← List.take_append_drop k l]
  unfold total
  rw [List.map_append, List.sum_append]
  omega
end Go.Proofs.Ytmpahimeljbliaa.Vm
