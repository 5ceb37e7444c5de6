/- The methods of le.Buf: what each lays down, and what it leaves as it was. No condition but room. -/
import Derived.RangeFuncBox
import Derived.WalkKit
import Derived.OwnWalk
import Derived.Maps.AppendAt
import Derived.Lib.Hide
import Derived.Deep.LoopGhost
import Derived.KernelRfl
import Derived.Test.YtmpahimeljbliaaWMore
import Derived.Test.YtmpahimeljbliaaProg
namespace Go.Proofs.Ytmpahimeljbliaa.Buf
open Go.RowKit Go.Proofs Go.Proofs.YtmpahimeljbliaaW.PrintWords Go.Proofs.YtmpahimeljbliaaW.PrintLast Go.Proofs.YtmpahimeljbliaaW.PrintMore

/-- A buffer at block b, whose bytes lie in the row v of the call's own. -/
structure BufV (base : Nat) (W : World) (b : Nat) (v : Value) (xs : List Int) : Prop where
  box : Boxed W b 149 v
  row : W.ownsRow base 5 1 v xs.length (nums .u8 xs)
  base : base ≤ b
/-- Nothing has turned but the buffer's own blocks. -/
structure Step (W W' : World) (b : Nat) (v v' : Value) : Prop where
  os : W'.os = W.os
  tape : W'.tape = W.tape
  output : W'.output = W.output
  size : W.heap.size ≤ W'.heap.size
  block : ∀ k, k < W.heap.size → k ≠ b → v.ownBlock ≠ some k → W'.heap[k]? = W.heap[k]?
  own : v'.ownBlock = v.ownBlock ∨ ∃ g, v'.ownBlock = some g ∧ W.heap.size ≤ g
theorem Step.refl (W : World) (b : Nat) (v : Value) : Step W W b v v := ⟨rfl, rfl, rfl, Nat.le_refl _, fun _ _ _ _ => rfl, .inl rfl⟩
theorem Step.trans {W W1 W2 : World} {b : Nat} {v v1 v2 : Value} (h : Step W W1 b v v1) (k : Step W1 W2 b v1 v2) : Step W W2 b v v2 := by
  refine ⟨k.os.trans h.os, k.tape.trans h.tape, k.output.trans h.output, Nat.le_trans h.size k.size, fun i hi hb hv => ?_, ?_⟩
  · rw [k.block i (Nat.lt_of_lt_of_le hi h.size) hb ?_, h.block i hi hb hv]
    rcases h.own with e | ⟨g, e, hg⟩
    · rw [e]; exact hv
    · rw [e]; intro e'; cases e'; omega
  · rcases k.own with e | ⟨g, e, hg⟩
    · rw [e]
      exact h.own
    · exact .inr ⟨g, e, Nat.le_trans h.size hg⟩
theorem Step.below {base : Nat} {W W' : World} {b : Nat} {v v' : Value} {xs : List Int} (h : Step W W' b v v') (hv : BufV base W b v xs) (hb : base ≤ W.heap.size) : Below base W W' :=
  ⟨h.os, h.tape, h.output, h.size, fun i hi => h.block i (Nat.lt_of_lt_of_le hi hb) (by have := hv.base; omega) (fun e => by have := own_base hv.row i e; omega)⟩
theorem BufV.drewN {base : Nat} {W : World} {b : Nat} {v : Value} {xs : List Int} (h : BufV base W b v xs) (m : Nat) : BufV base (W.drewN m) b v xs :=
  have hb : Below W.heap.size W (W.drewN m) := pw_below_drewN (Below.refl _ _) m
  ⟨(hb.block b h.box.lt).trans h.box, pw_own_below h.row hb, h.base⟩
theorem Step.drewN {W W' : World} {b : Nat} {v v' : Value} (h : Step W W' b v v') (m : Nat) : Step W (W'.drewN m) b v v' :=
  have hb : Below W'.heap.size W' (W'.drewN m) := pw_below_drewN (Below.refl _ _) m
  ⟨hb.os.trans h.os, hb.tape.trans h.tape, hb.output.trans h.output, Nat.le_trans h.size hb.size, fun k hk h1 h2 => (hb.block k (Nat.lt_of_lt_of_le hk h.size)).trans (h.block k hk h1 h2), h.own⟩
/-- Behind an append to the buffer's row, and the store into its field. -/
theorem BufV.appended {W w1 : World} {base b : Nat} {v v' : Value} {xs ys : List Int} {o : Obj} (hv : BufV base W b v xs) (hown : w1.ownsRow base 5 1 v' ys.length (nums .u8 ys)) (hg : (W.alloc o).grownBy w1 v.ownBlock)
    (hat : v'.ownBlock = v.ownBlock ∨ v'.ownBlock = some (W.alloc o).heap.size) :
    Boxed w1 b 149 v ∧ BufV base (w1.setCell ⟨b, 0, none⟩ v') b v' ys ∧ Step W (w1.setCell ⟨b, 0, none⟩ v') b v v' := by
  have hb1 : Boxed w1 b 149 v := (hv.box.alloc o).kept hg (hv.box.not_row (by decide) hv.row)
  have hg2 := grownBy_setCell' w1 b v'
  refine ⟨hb1, ⟨hb1.set v', hown.kept hg2 (.inr (hb1.not_row (by decide) hown).symm), hv.base⟩, ?_⟩
  have hsz : (W.alloc o).heap.size = W.heap.size + 1 := by simp
  have h1 := hg.size
  refine ⟨hg2.os.trans hg.os, hg2.tape.trans hg.tape, hg2.output.trans hg.output, Nat.le_trans (by omega) hg2.size, fun k hk h2 h3 => ?_, ?_⟩
  · rw [hg2.block k (by omega) (fun e => h2 (by cases e; rfl)), hg.block k (by omega) (fun e => h3 e.symm)]
    exact Below.heap_alloc _ _ _ hk
  · rcases hat with e | e
    · exact .inl e
    · exact .inr ⟨_, e, by omega⟩

/-- A number's lowest bytes. -/
def putBytes : Int → Nat → List Int
  | _, 0 => []
  | n, k + 1 => n % 256 :: putBytes (n / 256) k
theorem putBytes_len : ∀ (k : Nat) (n : Int), (putBytes n k).length = k
  | 0, _ => rfl
  | k + 1, n => by rw [putBytes, List.length_cons, putBytes_len k]
theorem infoE : (Try.prog.info? 5).map (fun i => (i.zero, i.size, i.bytes)) = some (some (.int .u8 0), 1, 1) := by kernel_rfl
theorem nums_snoc {W : World} {base e : Nat} {v : Value} {xs : List Int} {x : Int} (h : W.ownsRow base e 1 v (xs.length + 1) (nums .u8 xs ++ [.int .u8 x])) : W.ownsRow base e 1 v (xs ++ [x]).length (nums .u8 (xs ++ [x])) := by
  rw [nums_append, List.length_append]
  exact h

set_option maxRecDepth 100000 in
set_option maxHeartbeats 2000000 in
theorem put_calls (base b : Nat) (v : Value) (xs : List Int) (n : Int) (k : Nat) (W : World) (hv : BufV base W b v xs) (hbase : base ≤ W.heap.size) (hk : k ≤ 8) (hlen : xs.length + 8 ≤ 140737488355328) (hn0 : 0 ≤ n) (hn1 : n < 18446744073709551616) :
    Calls Try.prog 75 #[.pointer (some ⟨b, 0, none⟩), .int .u64 n, .int .i64 (k : Int)] W fun e W' => (∃ u, e = .returned u) ∧ ∃ v', BufV base W' b v' (xs ++ putBytes n k) ∧ Step W W' b v v' := by
  obtain ⟨i0, hi, hz0, hz1, hz2⟩ := info_parts infoE
  have HV := Aside0.mk hv
  clear hv
  go_enter Try.func75, Try.ntmps75
  go_wp2
  go_loopw [7, 1] (fun i m wr => ∃ (j : Nat) (n' : Int) (ys : List Int) (v' : Value), i = .int .i64 (j : Int) ∧ m = .int .u64 n' ∧ j ≤ k ∧ ys.length = xs.length + j ∧ 0 ≤ n' ∧ n' < 18446744073709551616 ∧ BufV base wr b v' ys ∧ Step W wr b v v' ∧ ys ++ putBytes n' (k - j) = xs ++ putBytes n k) (fun i _ _ => k - (intOf i).toNat)
  case atStart => exact ⟨0, n, xs, v, rfl, rfl, by omega, by omega, hn0, hn1, HV.out, Step.refl _ _ _, rfl⟩
  case round =>
    obtain ⟨j, n', ys, v', rfl, rfl, hj, hlen', h0, h1, hB, hS, he⟩ := hrel
    have HB := Aside0.mk hB
    have HS := Aside0.mk hS
    have HE := Aside0.mk he
    have HL := Aside0.mk hlen'
    clear hB hS he hlen'
    have hc := HB.out.box.cell
    have hf := HB.out.box.frozen
    by_cases hlt : j < k
    · have hl8 : ys.length + 1 ≤ 140737488355328 := by have := HL.out; omega
      have hm8 : ys.length + 1 ≤ maxLen := by unfold maxLen; omega
      have hm9 : (ys.length + 1) * 1 ≤ 140737488355328 := by omega
      go_wp2_with (at_builtin; refine wpList_append_own_at _ rfl _ _ 22 rfl base 5 i0 (.int .u8 0) 1 1 Try.underlying22 hi hz0 hz1 hz2 rfl (by decide) _ _ _ rfl (HB.out.row.alloc _) ⟨wr.heap.size, 0, none⟩ 1 1 [.int .u8 (n' % 256)] rfl rfl (cell_one_new _ _ _) (by simp [Value.oneCell']) hm8 hm9 (by have := HS.out.size; simp; omega) ?_; intro v2 w1 hown hgrow _ hat; have hown2 := nums_snoc hown; obtain ⟨g', cap', rfl⟩ := ownsRow_succ hown; obtain ⟨hv1, hv2, hst⟩ := HB.out.appended hown2 hgrow hat; have hc1 := hv1.cell; have hf1 := hv1.frozen; clear hown hown2 hgrow hat)
      go_roundw
      case rel =>
        refine ⟨j + 1, n' / 256, ys ++ [n' % 256], _, by go_num, rfl, by omega, by rw [List.length_append, HL.out]; simp; omega, by omega, by omega, hv2, HS.out.trans hst, ?_⟩
        rw [← HE.out, List.append_assoc]
        congr 1
        rw [show k - j = (k - (j + 1)) + 1 by omega]
        rfl
      case measure => simp [intOf]; omega
    · obtain rfl : j = k := by omega
      go_wp2
      go_end0
      exact ⟨⟨_, rfl⟩, _, by have := HE.out; rw [Nat.sub_self] at this; rw [← this]; simpa [putBytes] using HB.out, HS.out⟩

set_option maxHeartbeats 2000000 in
theorem new_calls (base : Nat) (W : World) (hbase : base ≤ W.heap.size) :
    Calls Try.prog 43 #[] W fun e W' => e = .returned (.pointer (some ⟨W.heap.size, 0, none⟩)) ∧ BufV base W' W.heap.size (.slice none 0 0) [] ∧ W' = W.alloc (.cells #[.slice none 0 0] 149) := by
  go_enter Try.func43, Try.ntmps43
  go_wp2
  go_ret
  exact ⟨rfl, ⟨Boxed.new _ _ _, World.ownsRow_nil _ _ _ _, hbase⟩, rfl⟩

set_option maxHeartbeats 2000000 in
theorem bytes_calls (base b : Nat) (v : Value) (xs : List Int) (W : World) (hv : BufV base W b v xs) (hbase : base ≤ W.heap.size) (hlen : xs.length ≤ 140737488355328) :
    Calls Try.prog 48 #[.pointer (some ⟨b, 0, none⟩)] W fun e W' => ∃ u, e = .returned u ∧ W'.ownsRow W.heap.size 5 1 u xs.length (nums .u8 xs) ∧ Below W.heap.size W W' := by
  obtain ⟨i0, hi, hz0, hz1, hz2⟩ := info_parts infoE
  have HV := Aside0.mk hv
  clear hv
  obtain ⟨A, c, rfl, hrd⟩ := own_reads HV.out.row
  have HR := Aside0.mk hrd
  clear hrd
  have hc := HV.out.box.cell
  go_enter Try.func48, Try.ntmps48
  go_wp2_with (at_builtin; refine print_append_row (w0 := W) W.heap.size rfl _ _ 22 5 .u8 1 rfl Try.underlying22 infoE (by decide) (.slice none 0 0) [] xs A xs.length c rfl rfl (World.ownsRow_nil _ _ _ _) HR.out (Below.refl _ _) (Nat.le_refl _) (by simp; omega) ?_; intro v1 w1 hown hb1 _ _; have HO := Aside0.mk hown; have HB1 := Aside0.mk hb1; clear hown hb1)
  go_ret
  exact ⟨_, rfl, by simpa using HO.out, HB1.out⟩

theorem BufV.grown {W w1 : World} {base b : Nat} {v v' : Value} {xs ys : List Int} (hv : BufV base W b v xs) (hown : w1.ownsRow base 5 1 v' ys.length (nums .u8 ys)) (hg : W.grownBy w1 v.ownBlock)
    (hat : v'.ownBlock = v.ownBlock ∨ ∃ g, v'.ownBlock = some g ∧ W.heap.size ≤ g) :
    Boxed w1 b 149 v ∧ BufV base (w1.setCell ⟨b, 0, none⟩ v') b v' ys ∧ Step W (w1.setCell ⟨b, 0, none⟩ v') b v v' := by
  have hb1 : Boxed w1 b 149 v := hv.box.kept hg (hv.box.not_row (by decide) hv.row)
  have hg2 := grownBy_setCell' w1 b v'
  refine ⟨hb1, ⟨hb1.set v', hown.kept hg2 (.inr (hb1.not_row (by decide) hown).symm), hv.base⟩, ?_⟩
  have h1 := hg.size
  refine ⟨hg2.os.trans hg.os, hg2.tape.trans hg.tape, hg2.output.trans hg.output, Nat.le_trans h1 hg2.size, fun k hk h2 h3 => ?_, hat⟩
  rw [hg2.block k (by omega) (fun e => h2 (by cases e; rfl)), hg.block k (by omega) (fun e => h3 e.symm)]
theorem wrap_small (n : Int) (h0 : 0 ≤ n) (h1 : n < 18446744073709551616) : IntKind.u64.wrap n = n := by rw [IntKind.wrap_u64]; omega

set_option maxHeartbeats 2000000 in
theorem put16_calls (base b : Nat) (v : Value) (xs : List Int) (n : Int) (W : World) (hv : BufV base W b v xs) (hbase : base ≤ W.heap.size) (hlen : xs.length + 8 ≤ 140737488355328) (hn0 : 0 ≤ n) (hn1 : n < 65536) :
    Calls Try.prog 50 #[.pointer (some ⟨b, 0, none⟩), .int .u16 n] W fun e W' => (∃ u, e = .returned u) ∧ ∃ v', BufV base W' b v' (xs ++ putBytes n 2) ∧ Step W W' b v v' := by
  have HV := Aside0.mk hv
  clear hv
  have hw := wrap_small n hn0 (by omega)
  go_enter Try.func50, Try.ntmps50
  go_wp2_with (go_at_call 75; (try rw [hw]); refine (put_calls base b v xs n 2 W HV.out hbase (by omega) hlen hn0 (by omega)).mono ?_; rintro e W1 ⟨⟨u, rfl⟩, v1, hv1, hs1⟩)
  go_end0
  exact ⟨⟨_, rfl⟩, _, hv1, hs1⟩

set_option maxHeartbeats 2000000 in
theorem put32_calls (base b : Nat) (v : Value) (xs : List Int) (n : Int) (W : World) (hv : BufV base W b v xs) (hbase : base ≤ W.heap.size) (hlen : xs.length + 8 ≤ 140737488355328) (hn0 : 0 ≤ n) (hn1 : n < 4294967296) :
    Calls Try.prog 49 #[.pointer (some ⟨b, 0, none⟩), .int .u32 n] W fun e W' => (∃ u, e = .returned u) ∧ ∃ v', BufV base W' b v' (xs ++ putBytes n 4) ∧ Step W W' b v v' := by
  have HV := Aside0.mk hv
  clear hv
  have hw := wrap_small n hn0 (by omega)
  go_enter Try.func49, Try.ntmps49
  go_wp2_with (go_at_call 75; (try rw [hw]); refine (put_calls base b v xs n 4 W HV.out hbase (by omega) hlen hn0 (by omega)).mono ?_; rintro e W1 ⟨⟨u, rfl⟩, v1, hv1, hs1⟩)
  go_end0
  exact ⟨⟨_, rfl⟩, _, hv1, hs1⟩

set_option maxHeartbeats 2000000 in
theorem len_calls (base b : Nat) (v : Value) (xs : List Int) (W : World) (hv : BufV base W b v xs) :
    Calls Try.prog 44 #[.pointer (some ⟨b, 0, none⟩)] W fun e W' => e = .returned (.int .i64 xs.length) ∧ ∃ m, W' = W.drewN m := by
  obtain ⟨A, c, rfl, hrd⟩ := own_reads hv.row
  have hc := hv.box.cell
  clear hrd
  go_enter Try.func44, Try.ntmps44
  go_wp2
  go_ret
  exact ⟨rfl, 0, rfl⟩

set_option maxHeartbeats 2000000 in
theorem raw_calls (base b : Nat) (v : Value) (xs : List Int) (A : Option Addr) (c : Nat) (ys : List Int) (W : World) (hv : BufV base W b v xs) (hbase : base ≤ W.heap.size) (hr : ReadsInt W .u8 A ys.length ys) (hlen : xs.length + ys.length ≤ 140737488355328) :
    Calls Try.prog 47 #[.pointer (some ⟨b, 0, none⟩), .slice A ys.length c] W fun e W' => (∃ u, e = .returned u) ∧ ∃ v', BufV base W' b v' (xs ++ ys) ∧ Step W W' b v v' := by
  have HV := Aside0.mk hv
  have HR := Aside0.mk hr
  clear hv hr
  have hc := HV.out.box.cell
  have hf := HV.out.box.frozen
  go_enter Try.func47, Try.ntmps47
  go_wp2_with (at_builtin; refine print_append_row (w0 := W) base rfl _ _ 22 5 .u8 1 rfl Try.underlying22 infoE (by decide) v xs ys A ys.length c rfl rfl HV.out.row HR.out (Below.refl _ _) hbase (by omega) ?_; intro v1 w1 ho hb1 hg hat; obtain ⟨Av, cv, erv, -⟩ := own_reads ho; subst erv; obtain ⟨hbx, hv2, hst⟩ := HV.out.grown ho hg hat; have hc1 := hbx.cell; have hf1 := hbx.frozen)
  go_end0
  rw [List.length_append] at hv2 hst
  exact ⟨⟨_, rfl⟩, _, hv2, hst⟩

theorem zero_nums (m : Nat) : (Builtin.zeroCells (Value.cells (.int .u8 0)) m).toList = nums .u8 (List.replicate m 0) := by
  simp [Builtin.zeroCells, nums, Value.cells]
  apply List.ext_getElem
  · simp
  · intro j h1 h2
    simp [Nat.mod_one]
theorem append_zeros {ops : Array Oper} {rest : List Oper} {o : Oper} {a : Act} {Q : Exit → Act → World → Prop} {W : World} (base : Nat) (hgd : o.guard = none) (s x : Operand) (v : Value) (xs : List Int) (m : Nat)
    (ho : o.op = .call { callee := .builtin .append, args := #[s, x], argTypes := #[22, 3] }) (hs : a.eval s = v) (hx : a.eval x = .int .i64 (m : Int)) (hown : W.ownsRow base 5 1 v xs.length (nums .u8 xs)) (hbase : base ≤ W.heap.size) (hl : xs.length + m ≤ 140737488355328)
    (h : ∀ v1 w1, w1.ownsRow base 5 1 v1 (xs ++ List.replicate m 0).length (nums .u8 (xs ++ List.replicate m 0)) → W.grownBy w1 v.ownBlock → (v1.ownBlock = v.ownBlock ∨ ∃ b, v1.ownBlock = some b ∧ W.heap.size ≤ b) → wpList Try.prog ops Q rest (a.put o.dst v1) w1) :
    wpList Try.prog ops Q (o :: rest) a W := by
  obtain ⟨i0, hi, hz0, hz1, hz2⟩ := info_parts infoE
  obtain ⟨v1, w1, hr1, h2, hg, hat⟩ := run_append_zeros (P := Try.prog) W base 22 3 o.type 5 i0 (.int .u8 0) 1 1 Try.underlying22 Try.underlying3 hi hz0 hz1 hz2 rfl (by decide) (by decide) v xs.length (nums .u8 xs) hown .i64 m (by
    rw [zero_nums]
    intro u hu
    simp [nums] at hu
    rw [hu.2]
    rfl) (by omega) hbase
  rw [zero_nums] at h2
  refine wpList_plain hgd fun K hK => ?_
  unfold Oper.wp execOp
  simp only [ho, resolve, invoke, builtin, Sem.run_bind, Sem.run_pure, Result.andThen_ok, List.map_toArray, List.map_cons, List.map_nil, hs, hx, hr1]
  refine hK _ _ (h v1 w1 ?_ hg (hat.imp_right fun e => ⟨_, e, Nat.le_refl _⟩))
  rw [nums_append, List.length_append, List.length_replicate]
  exact h2
attribute [local go_sem] max2_int min2_int max_two min_two in
set_option maxHeartbeats 2000000 in
theorem zeros_calls (base b : Nat) (v : Value) (xs : List Int) (m : Nat) (W : World) (hv : BufV base W b v xs) (hbase : base ≤ W.heap.size) (hm : m ≤ 262144) (hlen : xs.length + m ≤ 140737488355328) :
    Calls Try.prog 74 #[.pointer (some ⟨b, 0, none⟩), .int .i64 (m : Int)] W fun e W' => (∃ u, e = .returned u) ∧ ∃ v', BufV base W' b v' (xs ++ List.replicate m 0) ∧ Step W W' b v v' := by
  have HV := Aside0.mk hv
  clear hv
  have hc := HV.out.box.cell
  have hf := HV.out.box.frozen
  have e1 : mx (m : Int) 0 = (m : Int) := by unfold mx; split <;> omega
  have e2 : mn (m : Int) 262144 = (m : Int) := by unfold mn; split <;> omega
  go_enter Try.func74, Try.ntmps74
  go_wp2_with (at_builtin; (try rw [e1]); (try rw [e2]); refine append_zeros base rfl _ _ v xs m rfl rfl rfl HV.out.row hbase hlen ?_; intro v1 w1 ho hg hat; obtain ⟨Av, cv, erv, -⟩ := own_reads ho; subst erv; obtain ⟨hbx, hv2, hst⟩ := HV.out.grown ho hg hat; have hc1 := hbx.cell; have hf1 := hbx.frozen)
  go_end0
  rw [List.length_append, List.length_replicate] at hv2 hst
  exact ⟨⟨_, rfl⟩, _, hv2, hst⟩
end Go.Proofs.Ytmpahimeljbliaa.Buf
