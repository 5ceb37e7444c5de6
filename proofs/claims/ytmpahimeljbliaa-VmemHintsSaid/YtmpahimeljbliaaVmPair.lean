/- Two spaces side by side in memory, and three rows of numbers: each is kept over what is done with the others. No condition beyond those of each lemma. -/
import Derived.Test.YtmpahimeljbliaaVmTwin
import Derived.Test.YtmpahimeljbliaaVmWas
import Derived.Deep.AppendLies
namespace Go.Proofs.Ytmpahimeljbliaa.Vm
open Go.RowKit Go.Proofs Go.Proofs.YtmpahimeljbliaaW.PrintWords

structure Pair (w0 W : World) (oA oB : Nat → Option Role) (a b : Nat) (vA vB : Value) (sA sB : Sp) (rx ry rp : Value) (xs ys ns : List Nat) : Prop where
  A : St w0 W oA a vA sA rx xs
  B : St w0 W oB b vB sB ry ys
  dis : ∀ k, oA k ≠ none → oB k = none
  xB : ∀ k, rx.ownBlock = some k → oB k = none
  yA : ∀ k, ry.ownBlock = some k → oA k = none
  rowP : W.ownsRow w0.heap.size 3 1 rp ns.length (nums .i64 (natsI ns))
  pA : ∀ k, rp.ownBlock = some k → oA k = none
  pB : ∀ k, rp.ownBlock = some k → oB k = none
  xy : ∀ k, rx.ownBlock = some k → ry.ownBlock ≠ some k
  xp : ∀ k, rx.ownBlock = some k → rp.ownBlock ≠ some k
  yp : ∀ k, ry.ownBlock = some k → rp.ownBlock ≠ some k
theorem St.swap {w0 W W1 : World} {own : Nat → Option Role} {a : Nat} {v : Value} {s : Sp} {rv : Value} {rooms : List Nat} (h : St w0 W own a v s rv rooms) (hs : W.heap.size ≤ W1.heap.size) (hB : Below w0.heap.size w0 W1) (hk : ∀ k, k < W.heap.size → own k ≠ none ∨ rv.ownBlock = some k → W1.heap[k]? = W.heap[k]?) : St w0 W1 own a v s rv rooms :=
  ⟨h.hold.keep hs (fun k hn => hk k (h.hold.lt k hn).2 (.inl hn)), hB, own_move h.row (fun k e => hk k (own_lt h.row k e) (.inr e)), h.free, h.le⟩
section
variable {w0 W W1 : World} {oA oB oA' oB' : Nat → Option Role} {a b : Nat} {vA vB vA' vB' : Value} {sA sB sA' sB' : Sp} {rx ry rp : Value} {xs ys ns : List Nat}
theorem Pair.below (h : Pair w0 W oA oB a b vA vB sA sB rx ry rp xs ys ns) (hB : Below W.heap.size W W1) : Pair w0 W1 oA oB a b vA vB sA sB rx ry rp xs ys ns :=
  { h with A := h.A.below hB, B := h.B.below hB, rowP := own_move h.rowP (fun k hk => hB.block k (own_lt h.rowP k hk)) }
theorem Pair.stepA (h : Pair w0 W oA oB a b vA vB sA sB rx ry rp xs ys ns) (hS : St w0 W1 oA' a vA' sA' rx xs) (hC : Calm oA W W1) (ho : ∀ k, k < W.heap.size → oA' k = oA k) : Pair w0 W1 oA' oB a b vA' vB sA' sB rx ry rp xs ys ns := by
  refine ⟨hS, h.B.swap hC.1 hS.bel (fun k hk e => hC.2 k hk ?_), fun k hk => ?_, h.xB, fun k hk => ?_, own_move h.rowP (fun k hk => hC.2 k (own_lt h.rowP k hk) (h.pA k hk)), fun k hk => ?_, h.pB, h.xy, h.xp, h.yp⟩
  · rcases e with e | e
    · exact Classical.byContradiction fun c => e (h.dis k c)
    · exact h.yA k e
  · by_cases c : k < W.heap.size
    · rw [ho k c] at hk
      exact h.dis k hk
    · exact Classical.byContradiction fun d => c (h.B.hold.lt k d).2
  · exact (ho k (own_lt h.B.row k hk)).trans (h.yA k hk)
  · exact (ho k (own_lt h.rowP k hk)).trans (h.pA k hk)
theorem Pair.stepB (h : Pair w0 W oA oB a b vA vB sA sB rx ry rp xs ys ns) (hS : St w0 W1 oB' b vB' sB' ry ys) (hC : Calm oB W W1) (ho : ∀ k, k < W.heap.size → oB' k = oB k) : Pair w0 W1 oA oB' a b vA vB' sA sB' rx ry rp xs ys ns := by
  refine ⟨h.A.swap hC.1 hS.bel (fun k hk e => hC.2 k hk ?_), hS, fun k hk => ?_, fun k hk => ?_, h.yA, own_move h.rowP (fun k hk => hC.2 k (own_lt h.rowP k hk) (h.pB k hk)), h.pA, fun k hk => ?_, h.xy, h.xp, h.yp⟩
  · rcases e with e | e
    · exact h.dis k e
    · exact h.xB k e
  · exact (ho k (h.A.hold.lt k hk).2).trans (h.dis k hk)
  · exact (ho k (own_lt h.A.row k hk)).trans (h.xB k hk)
  · exact (ho k (own_lt h.rowP k hk)).trans (h.pB k hk)
theorem new_none {own : Nat → Option Role} {base : Nat} {v : Value} {s : Sp} (h : Holds W own base a v s) {k : Nat} (hk : W.heap.size ≤ k) : own k = none := Classical.byContradiction fun c => by have := (h.lt k c).2; omega
/-- The blocks of a row that was appended to. -/
theorem at_case {v v1 : Value} {k : Nat} (hat : v1.ownBlock = v.ownBlock ∨ ∃ b, v1.ownBlock = some b ∧ W.heap.size ≤ b) (hk : v1.ownBlock = some k) : v.ownBlock = some k ∨ W.heap.size ≤ k := by
  rcases hat with e | ⟨b, e, hb⟩
  · exact .inl (e ▸ hk)
  · rw [e] at hk
    obtain rfl := Option.some.inj hk
    exact .inr hb
theorem Pair.pushX (h : Pair w0 W oA oB a b vA vB sA sB rx ry rp xs ys ns) (x : Nat) (hx : x ≤ 18446744073709551615) {v1 : Value} (hr : W1.ownsRow w0.heap.size 28 1 v1 (xs.length + 1) (nums .u64 (natsI xs) ++ [.int .u64 x])) (hB : Below w0.heap.size w0 W1) (hg : W.grownBy W1 rx.ownBlock) (hat : v1.ownBlock = rx.ownBlock ∨ ∃ b, v1.ownBlock = some b ∧ W.heap.size ≤ b) : Pair w0 W1 oA oB a b vA vB sA sB v1 ry rp (xs ++ [x]) ys ns := by
  refine ⟨h.A.push x hx hr hB hg hat, h.B.swap hg.size hB (fun k hk e => hg.block k hk ?_), h.dis, fun k hk => ?_, h.yA, own_move h.rowP (fun k hk => hg.block k (own_lt h.rowP k hk) (fun e => h.xp k e.symm hk)), h.pA, h.pB, fun k hk e => ?_, fun k hk e => ?_, h.yp⟩
  · intro c
    rcases e with e | e
    · exact e (h.xB k c.symm)
    · exact h.xy k c.symm e
  · rcases at_case hat hk with c | c
    · exact h.xB k c
    · exact new_none h.B.hold c
  · rcases at_case hat hk with c | c
    · exact h.xy k c e
    · have := own_lt h.B.row k e; omega
  · rcases at_case hat hk with c | c
    · exact h.xp k c e
    · have := own_lt h.rowP k e; omega
theorem Pair.pushY (h : Pair w0 W oA oB a b vA vB sA sB rx ry rp xs ys ns) (y : Nat) (hy : y ≤ 18446744073709551615) {v1 : Value} (hr : W1.ownsRow w0.heap.size 28 1 v1 (ys.length + 1) (nums .u64 (natsI ys) ++ [.int .u64 y])) (hB : Below w0.heap.size w0 W1) (hg : W.grownBy W1 ry.ownBlock) (hat : v1.ownBlock = ry.ownBlock ∨ ∃ b, v1.ownBlock = some b ∧ W.heap.size ≤ b) : Pair w0 W1 oA oB a b vA vB sA sB rx v1 rp xs (ys ++ [y]) ns := by
  refine ⟨h.A.swap hg.size hB (fun k hk e => hg.block k hk ?_), h.B.push y hy hr hB hg hat, h.dis, h.xB, fun k hk => ?_, own_move h.rowP (fun k hk => hg.block k (own_lt h.rowP k hk) (fun e => h.yp k e.symm hk)), h.pA, h.pB, fun k hk e => ?_, h.xp, fun k hk e => ?_⟩
  · intro c
    rcases e with e | e
    · exact e (h.yA k c.symm)
    · exact h.xy k e c.symm
  · rcases at_case hat hk with c | c
    · exact h.yA k c
    · exact new_none h.A.hold c
  · rcases at_case hat e with c | c
    · exact h.xy k hk c
    · have := own_lt h.A.row k hk; omega
  · rcases at_case hat hk with c | c
    · exact h.yp k c e
    · have := own_lt h.rowP k e; omega
theorem Pair.pushP (h : Pair w0 W oA oB a b vA vB sA sB rx ry rp xs ys ns) (n : Nat) {v1 : Value} (hr : W1.ownsRow w0.heap.size 3 1 v1 (ns.length + 1) (nums .i64 (natsI ns) ++ [.int .i64 n])) (hB : Below w0.heap.size w0 W1) (hg : W.grownBy W1 rp.ownBlock) (hat : v1.ownBlock = rp.ownBlock ∨ ∃ b, v1.ownBlock = some b ∧ W.heap.size ≤ b) : Pair w0 W1 oA oB a b vA vB sA sB rx ry v1 xs ys (ns ++ [n]) := by
  refine ⟨h.A.swap hg.size hB (fun k hk e => hg.block k hk ?_), h.B.swap hg.size hB (fun k hk e => hg.block k hk ?_), h.dis, h.xB, h.yA, ?_, fun k hk => ?_, fun k hk => ?_, h.xy, fun k hk e => ?_, fun k hk e => ?_⟩
  · intro c
    rcases e with e | e
    · exact e (h.pA k c.symm)
    · exact h.xp k e c.symm
  · intro c
    rcases e with e | e
    · exact e (h.pB k c.symm)
    · exact h.yp k e c.symm
  · rw [List.length_append, natsI, List.map_append, nums, List.map_append]
    exact hr
  · rcases at_case hat hk with c | c
    · exact h.pA k c
    · exact new_none h.A.hold c
  · rcases at_case hat hk with c | c
    · exact h.pB k c
    · exact new_none h.B.hold c
  · rcases at_case hat e with c | c
    · exact h.xp k hk c
    · have := own_lt h.A.row k hk; omega
  · rcases at_case hat e with c | c
    · exact h.yp k hk c
    · have := own_lt h.B.row k hk; omega
end
/-- A call, its argument in a variable of the walk's. -/
theorem Pair.callA {w0 W : World} {oA oB : Nat → Option Role} {a b : Nat} {vA vB : Value} {sA sB : Sp} {ry rp : Value} {A7 : Option Addr} {c7 : Nat} {xs ys ns : List Nat} (h : Pair w0 W oA oB a b vA vB sA sB (.slice A7 xs.length c7) ry rp xs ys ns) {p : Opn} (hp : p.Ok) {A6 : Option Addr} {c6 : Nat} (hl : xs.length ≤ 100) (hint : Nat) (hh : hint ≤ 18446744073709551615)
    (hsrc : ∀ (W : World) (own : Nat → Option Role) (a : Nat) (v : Value) (s : Sp), Below w0.heap.size w0 W → Holds W own w0.heap.size a v s → Src W own A6 c6 p.data) :
    Calls Try.prog 27 #[.pointer (some ⟨a, 0, none⟩), .agg #[.int .i64 p.kind, .int .i64 p.room, .int .u64 p.off, .int .u64 p.size, .int .i64 p.prot, .int .u64 p.hint, .slice A6 p.data.length c6], .slice A7 xs.length c7, .int .u64 hint] W fun e w' => ∃ (oA' : Nat → Option Role) (vA' : Value) (sA' : Sp) (o : Out), e = .returned (.agg #[.int .i64 o.e, .string (strOfNums o.b), .int .u64 o.at_, .bool o.room]) ∧ Done sA (placeF p xs) p hint sA' o ∧ Pair w0 w' oA' oB a b vA' vB sA' sB (.slice A7 xs.length c7) ry rp xs ys ns ∧ Calm oA W w' ∧ (∀ k, k < W.heap.size → oA' k = oA k) := by
  obtain ⟨A8, c8, e8, hr⟩ := h.A.reads
  cases e8
  refine (done_in h.A.hold p hp A6 c6 (hsrc _ _ _ _ _ h.A.bel h.A.hold) xs A7 c7 hr h.A.le hl hint hh).mono ?_
  rintro _ w' ⟨own', v', s', o, rfl, hD, hH, ho, hK⟩
  exact ⟨own', v', s', o, rfl, hD, h.stepA (h.A.kept hH ho hK) (Calm.of_kp hK) ho, Calm.of_kp hK, ho⟩
theorem Pair.callB {w0 W : World} {oA oB : Nat → Option Role} {a b : Nat} {vA vB : Value} {sA sB : Sp} {rx rp : Value} {A7 : Option Addr} {c7 : Nat} {xs ys ns : List Nat} (h : Pair w0 W oA oB a b vA vB sA sB rx (.slice A7 ys.length c7) rp xs ys ns) {p : Opn} (hp : p.Ok) {A6 : Option Addr} {c6 : Nat} (hl : ys.length ≤ 100) (hint : Nat) (hh : hint ≤ 18446744073709551615)
    (hsrc : ∀ (W : World) (own : Nat → Option Role) (a : Nat) (v : Value) (s : Sp), Below w0.heap.size w0 W → Holds W own w0.heap.size a v s → Src W own A6 c6 p.data) :
    Calls Try.prog 27 #[.pointer (some ⟨b, 0, none⟩), .agg #[.int .i64 p.kind, .int .i64 p.room, .int .u64 p.off, .int .u64 p.size, .int .i64 p.prot, .int .u64 p.hint, .slice A6 p.data.length c6], .slice A7 ys.length c7, .int .u64 hint] W fun e w' => ∃ (oB' : Nat → Option Role) (vB' : Value) (sB' : Sp) (o : Out), e = .returned (.agg #[.int .i64 o.e, .string (strOfNums o.b), .int .u64 o.at_, .bool o.room]) ∧ Done sB (placeF p ys) p hint sB' o ∧ Pair w0 w' oA oB' a b vA vB' sA sB' rx (.slice A7 ys.length c7) rp xs ys ns ∧ Calm oB W w' ∧ (∀ k, k < W.heap.size → oB' k = oB k) := by
  obtain ⟨A8, c8, e8, hr⟩ := h.B.reads
  cases e8
  refine (done_in h.B.hold p hp A6 c6 (hsrc _ _ _ _ _ h.B.bel h.B.hold) ys A7 c7 hr h.B.le hl hint hh).mono ?_
  rintro _ w' ⟨own', v', s', o, rfl, hD, hH, ho, hK⟩
  exact ⟨own', v', s', o, rfl, hD, h.stepB (h.B.kept hH ho hK) (Calm.of_kp hK) ho, Calm.of_kp hK, ho⟩
theorem Pair.set {w0 W : World} {oA oB : Nat → Option Role} {a b : Nat} {vA vB : Value} {sA sB : Sp} {rx ry rp : Value} {xs ys ns : List Nat} (h : Pair w0 W oA oB a b vA vB sA sB rx ry rp xs ys ns) {g : Nat} (hg : w0.heap.size ≤ g) (hA : oA g = none) (hB : oB g = none) (hx : rx.ownBlock ≠ some g) (hy : ry.ownBlock ≠ some g) (hp : rp.ownBlock ≠ some g) (j : Nat) (u : Value) : Pair w0 (W.setCell ⟨g, j, none⟩ u) oA oB a b vA vB sA sB rx ry rp xs ys ns :=
  { h with A := h.A.set hg hA hx j u, B := h.B.set hg hB hy j u, rowP := own_move h.rowP (fun k hk => Below.heap_setCell W ⟨g, j, none⟩ u k (fun e => hp (by rw [hk, show k = g from e]))) }
theorem Pair.free {w0 W : World} {oA oB : Nat → Option Role} {a b : Nat} {vA vB : Value} {sA sB : Sp} {rx ry rp : Value} {xs ys ns : List Nat} (h : Pair w0 W oA oB a b vA vB sA sB rx ry rp xs ys ns) {g : Nat} (hg : W.heap.size ≤ g) : oA g = none ∧ oB g = none ∧ rx.ownBlock ≠ some g ∧ ry.ownBlock ≠ some g ∧ rp.ownBlock ≠ some g :=
  ⟨new_none h.A.hold hg, new_none h.B.hold hg, fun e => by have := own_lt h.A.row g e; omega, fun e => by have := own_lt h.B.row g e; omega, fun e => by have := own_lt h.rowP g e; omega⟩
section
variable {ops : Array Oper} {o : Oper} {ac : Act} {K : Act → World → Prop} {Q : Exit → Act → World → Prop} {E : Prop} {w0 Wl Wc : World} {oA oB : Nat → Option Role} {a b : Nat} {vA vB : Value} {sA sB : Sp} {rx ry rp : Value} {xs ys ns : List Nat}
theorem news_one {W : World} {g : Nat} {u : Value} (hc : W.cell? ⟨g, 0, none⟩ = some u) : ∀ j v, [u][j]? = some v → W.cell? ((⟨g, 0, none⟩ : Addr).add j) = some v := fun j v hv => by
  rcases j with _ | j
  · obtain rfl : u = v := by simpa using hv
    rw [add_plain]
    exact hc
  · simp at hv
set_option maxRecDepth 100000 in
/-- One step of a region that draws: a place is appended to the first row. -/
theorem step_pushX (hgd : o.guard = none) (s x : Operand) (ho : o.op = .call { callee := .builtin .append, args := #[s, x], argTypes := #[53, 53] }) (h : Pair w0 Wl oA oB a b vA vB sA sB rx ry rp xs ys ns) (hB : Below Wl.heap.size Wl Wc) (u gb : Nat) (hu : u ≤ 18446744073709551615) (hs : ac.eval s = rx) (hx : ac.eval x = .slice (some ⟨gb, 0, none⟩) 1 1) (hc : Wc.cell? ⟨gb, 0, none⟩ = some (.int .u64 u)) (hl : xs.length ≤ 100)
    (hK : ∀ v1 w1, Pair w0 w1 oA oB a b vA vB sA sB v1 ry rp (xs ++ [u]) ys ns → Wc.grownBy w1 rx.ownBlock → K (ac.put o.dst v1) w1) : if Region.wanted o (yielded ops ac.tmps) = true then Oper.wp Try.prog o ac Wc K Q else E := by
  obtain ⟨i0, hi, hz0, hz1, hz2⟩ := info_parts info28
  have h2 := h.below hB
  refine step_append_lies Wc hgd s x 53 ho w0.heap.size 28 i0 (.int .u64 0) 1 8 Try.underlying53 hi hz0 hz1 hz2 rfl (by decide) rx xs.length (nums .u64 (natsI xs)) hs h2.A.row ⟨gb, 0, none⟩ 1 1 [.int .u64 u] hx rfl (news_one hc) (by simp [Value.oneCell']) (by decide) (by unfold maxLen; omega) (by omega) h2.A.bel.size _ rfl ?_
  intro g cap w1 ho1 hg1 hat hlt
  refine hK _ _ (h2.pushX u hu ho1 (h2.A.bel.grown hg1 h2.A.bel.size (own_base h2.A.row)) hg1 ?_) hg1
  rcases hat with e | e
  · exact .inl (by rw [e]; rfl)
  · exact .inr ⟨g, rfl, by omega⟩
set_option maxRecDepth 100000 in
theorem step_pushY (hgd : o.guard = none) (s x : Operand) (ho : o.op = .call { callee := .builtin .append, args := #[s, x], argTypes := #[53, 53] }) (h : Pair w0 Wl oA oB a b vA vB sA sB rx ry rp xs ys ns) (hB : Below Wl.heap.size Wl Wc) (u gb : Nat) (hu : u ≤ 18446744073709551615) (hs : ac.eval s = ry) (hx : ac.eval x = .slice (some ⟨gb, 0, none⟩) 1 1) (hc : Wc.cell? ⟨gb, 0, none⟩ = some (.int .u64 u)) (hl : ys.length ≤ 100)
    (hK : ∀ v1 w1, Pair w0 w1 oA oB a b vA vB sA sB rx v1 rp xs (ys ++ [u]) ns → Wc.grownBy w1 ry.ownBlock → K (ac.put o.dst v1) w1) : if Region.wanted o (yielded ops ac.tmps) = true then Oper.wp Try.prog o ac Wc K Q else E := by
  obtain ⟨i0, hi, hz0, hz1, hz2⟩ := info_parts info28
  have h2 := h.below hB
  refine step_append_lies Wc hgd s x 53 ho w0.heap.size 28 i0 (.int .u64 0) 1 8 Try.underlying53 hi hz0 hz1 hz2 rfl (by decide) ry ys.length (nums .u64 (natsI ys)) hs h2.B.row ⟨gb, 0, none⟩ 1 1 [.int .u64 u] hx rfl (news_one hc) (by simp [Value.oneCell']) (by decide) (by unfold maxLen; omega) (by omega) h2.B.bel.size _ rfl ?_
  intro g cap w1 ho1 hg1 hat hlt
  refine hK _ _ (h2.pushY u hu ho1 (h2.B.bel.grown hg1 h2.B.bel.size (own_base h2.B.row)) hg1 ?_) hg1
  rcases hat with e | e
  · exact .inl (by rw [e]; rfl)
  · exact .inr ⟨g, rfl, by omega⟩
end
theorem gateR {P : Program} {ops : Array Oper} {o : Oper} {ac : Act} {w : World} {K : Act → World → Prop} {Q : Exit → Act → World → Prop} {E : Prop} {N : Tmp} (_h : o.dst = some N) (k : if Region.wanted o (yielded ops ac.tmps) = true then Oper.wp P o ac w K Q else E) : if Region.wanted o (yielded ops ac.tmps) = true then Oper.wp P o ac w K Q else E := k
theorem blkL1 (w : World) (cs : Array Value) (t : TypeId) : Blk (w.alloc (.cells cs t)).drew w.heap.size cs t := (Blk.new w cs t).below (below_drew1 (Below.refl _ _))
theorem blkL2 (w : World) (o : Obj) (cs : Array Value) (t : TypeId) : Blk ((w.alloc o).drew.alloc (.cells cs t)).drew (w.heap.size + 1) cs t := by
  have h := blkL1 (w.alloc o).drew cs t
  rw [show (w.alloc o).drew.heap.size = w.heap.size + 1 from by simp] at h
  exact h
theorem blkL3 (w : World) (o : Obj) (cs : Array Value) (t : TypeId) : Blk ((w.alloc (.cells cs t)).drew.alloc o).drew w.heap.size cs t := (blkL1 w cs t).below (below_drew1 (below_alloc (Below.refl _ _) _))
/-- Both begin. -/
theorem pair_new (bg : Nat) (h1 : 1 ≤ bg) (h2 : bg ≤ 1024) (w0 W1 W2 : World) (e1 : W1 = w0.alloc (.cells #[.int .i64 bg, .int .i64 0, .slice none 0 0] 113)) (e2 : W2 = W1.alloc (.cells #[.int .i64 bg, .int .i64 0, .slice none 0 0] 113)) :
    ∃ oA oB, Pair w0 W2 oA oB w0.heap.size W1.heap.size (.slice none 0 0) (.slice none 0 0) (empty bg) (empty bg) (.slice none 0 0) (.slice none 0 0) (.slice none 0 0) [] [] [] := by
  have hz : W1.heap.size = w0.heap.size + 1 := by rw [e1]; simp
  have hB1 : Below w0.heap.size w0 W1 := e1 ▸ below_new _ _
  have hB2 : Below W1.heap.size W1 W2 := e2 ▸ below_new _ _
  have hA := new_holds bg h1 h2 w0 w0.heap.size (Nat.le_refl _)
  rw [← e1] at hA
  have hB := new_holds bg h1 h2 W1 w0.heap.size hB1.size
  rw [← e2] at hB
  have h02 := below_then hB1 hB1.size hB2
  refine ⟨_, _, ⟨⟨hA.below hB2, h02, own_nil _ _ _ _, fun k hk => by simp [Value.ownBlock] at hk, fun r hr => by cases hr⟩, ⟨hB, h02, own_nil _ _ _ _, fun k hk => by simp [Value.ownBlock] at hk, fun r hr => by cases hr⟩, fun k hk => ?_, fun k hk => by simp [Value.ownBlock] at hk, fun k hk => by simp [Value.ownBlock] at hk, own_nil _ _ _ _, fun k hk => by simp [Value.ownBlock] at hk, fun k hk => by simp [Value.ownBlock] at hk, fun k hk => by simp [Value.ownBlock] at hk, fun k hk => by simp [Value.ownBlock] at hk, fun k hk => by simp [Value.ownBlock] at hk⟩⟩
  show (if k = W1.heap.size then some Role.space else none) = none
  by_cases c : k = w0.heap.size
  · rw [if_neg (by omega)]
  · exact absurd (show (if k = w0.heap.size then some Role.space else none) = none from if_neg c) hk
theorem tw_new (bg : Nat) : Tw (empty bg) (empty bg) [] [] [] := ⟨rfl, rfl, rfl, rfl, rfl, fun i x y n hx => by simp at hx, fun i k x hx => by simp at hx, fun i k y hx => by simp at hx⟩
end Go.Proofs.Ytmpahimeljbliaa.Vm
