/- A space whose rooms have turned: what lies in memory, told anew; steps of the walks that turn them. No condition beyond those of each lemma. -/
import Derived.Test.YtmpahimeljbliaaVmReads
import Derived.Test.YtmpahimeljbliaaVmGap
import Derived.Laws.MakeOwn
namespace Go.Proofs.Ytmpahimeljbliaa.Vm
open Go.RowKit Go.Proofs Go.Proofs.YtmpahimeljbliaaW.PrintWords

/-- Of what was there only the space's block and its row have turned. -/
structure Few (own : Nat → Option Role) (base : Nat) (w W : World) : Prop where
  bel : Below base w W
  few : ∀ k, k < w.heap.size → own k ≠ some .space → own k ≠ some .rooms → W.heap[k]? = w.heap[k]?
theorem Few.refl (own : Nat → Option Role) (base : Nat) (w : World) : Few own base w w := ⟨Below.refl _ _, fun _ _ _ _ => rfl⟩
theorem Few.below {own : Nat → Option Role} {base : Nat} {w W W1 : World} (h : Few own base w W) (hb : base ≤ W.heap.size) (k : Below W.heap.size W W1) : Few own base w W1 :=
  ⟨below_then h.bel hb k, fun i hi h1 h2 => (k.block i (Nat.lt_of_lt_of_le hi h.bel.size)).trans (h.few i hi h1 h2)⟩
theorem Few.far {own : Nat → Option Role} {base : Nat} {w W W1 : World} (h : Few own base w W) {b : Nat} (hb : base ≤ b) (ho : w.heap.size ≤ b ∨ own b = some .space ∨ own b = some .rooms) (hk : ∀ i, i ≠ b → W1.heap[i]? = W.heap[i]?) (hB : Below base W W1) : Few own base w W1 :=
  ⟨h.bel.trans hB, fun i hi h1 h2 => (hk i (fun e => by subst e; rcases ho with ho | ho | ho; omega; exact h1 ho; exact h2 ho)).trans (h.few i hi h1 h2)⟩
theorem Few.set {own : Nat → Option Role} {base : Nat} {w W : World} (h : Few own base w W) {b : Nat} (hb : base ≤ b) (ho : w.heap.size ≤ b ∨ own b = some .space ∨ own b = some .rooms) (j : Nat) (v : Value) : Few own base w (W.setCell ⟨b, j, none⟩ v) :=
  h.far hb ho (fun i hi => Below.heap_setCell W ⟨b, j, none⟩ v i hi) ((Below.refl _ _).setCell hb v)
theorem Few.grown {own : Nat → Option Role} {base : Nat} {w W W1 : World} (h : Few own base w W) (hb : base ≤ W.heap.size) {row : Option Nat} (hg : W.grownBy W1 row) (hr : ∀ k, row = some k → base ≤ k ∧ (w.heap.size ≤ k ∨ own k = some .space ∨ own k = some .rooms)) : Few own base w W1 :=
  ⟨h.bel.grown hg hb (fun k hk => (hr k hk).1), fun i hi h1 h2 => (hg.block i (Nat.lt_of_lt_of_le hi h.bel.size) (fun e => by
    rcases (hr i e.symm).2 with ho | ho | ho
    · omega
    · exact h1 ho
    · exact h2 ho)).trans (h.few i hi h1 h2)⟩
theorem Few.kp {own : Nat → Option Role} {base : Nat} {w W : World} (h : Few own base w W) : Kp own base w W :=
  ⟨h.bel, fun k hk hn => h.few k hk (by rw [hn]; simp) (by rw [hn]; simp)⟩
/-- The rooms anew: each is one of those that were there, or is told. -/
theorem Holds.rebuild {w W : World} {own own' : Nat → Option Role} {base a : Nat} {v v' : Value} {s s' : Sp} (h : Holds w own base a v s) (hF : Few own base w W) (hown : ∀ k, own k ≠ none → own' k = own k)
    (hsp : Blk W a (cellsS s' v') 113) (hrow : Row W base v' s'.rs.length (s'.rs.map ptrR)) (horow : ∀ k, v'.ownBlock = some k → own' k = some .rooms)
    (hlt : ∀ k, own' k ≠ none → base ≤ k ∧ k < W.heap.size) (hgood : s'.Good)
    (hnew : ∀ (i : Nat) (q : Rm), s'.rs[i]? = some q → (∃ j : Nat, s.rs[j]? = some q) ∨ ((Blk W q.b (cellsR q) 125 ∧ own' q.b = some (.room q.at_)) ∧ (Blk W q.ab (cellsA q) 126 ∧ own' q.ab = some (.arr q.at_)) ∧ ∀ (k : Nat) (p : Pg), q.ps[k]? = some (some p) → Blk W p.b (cellsP p) 90 ∧ own' p.b = some (.page p.at_))) :
    Holds W own' base a v' s' := by
  have mv : ∀ (k : Nat) (r : Role), own k = some r → r ≠ .space → r ≠ .rooms → W.heap[k]? = w.heap[k]? := fun k r hr h1 h2 => hF.few k (h.lt k (by rw [hr]; simp)).2 (by rw [hr]; intro e; injection e with e; exact h1 e) (by rw [hr]; intro e; injection e with e; exact h2 e)
  refine ⟨hsp, by rw [hown a (by rw [h.osp]; simp)]; exact h.osp, hrow, horow, fun i q hq => ?_, fun i q hq => ?_, fun i q hq k p hp => ?_, hlt, hgood⟩
  · rcases hnew i q hq with ⟨j, hj⟩ | ⟨h1, _⟩
    · have := h.rb j q hj
      exact ⟨this.1.move (mv _ _ this.2 (by simp) (by simp)), by rw [hown q.b (by rw [this.2]; simp)]; exact this.2⟩
    · exact h1
  · rcases hnew i q hq with ⟨j, hj⟩ | ⟨_, h1, _⟩
    · have := h.ra j q hj
      exact ⟨this.1.move (mv _ _ this.2 (by simp) (by simp)), by rw [hown q.ab (by rw [this.2]; simp)]; exact this.2⟩
    · exact h1
  · rcases hnew i q hq with ⟨j, hj⟩ | ⟨_, _, h1⟩
    · have := h.pg j q hj k p hp
      exact ⟨this.1.move (mv _ _ this.2 (by simp) (by simp)), by rw [hown p.b (by rw [this.2]; simp)]; exact this.2⟩
    · exact h1 k p hp
theorem made_none (n : Nat) : madeCells (Value.pointer none).cells n = (List.replicate n (Value.pointer none)).toArray := by
  have h : (Value.pointer none).cells = #[Value.pointer none] := rfl
  rw [h]
  unfold madeCells
  apply Array.ext
  · simp
  · intro i h1 h2
    simp [Nat.mod_one]
theorem make_pages (n : Nat) (hn : n ≤ 1024) : ∀ W : World, (Instr.makeSlice 123 (.int .i64 n) (.int .i64 n)).run Try.prog W = .ok (.slice (some ⟨W.heap.size, 0, none⟩) n n) (W.alloc (.cells (Array.replicate n (Value.pointer none)) 126)) := by
  obtain ⟨i, hi0, hz, hsz, hby⟩ := info_parts info126
  intro W
  have := run_make (P := Try.prog) W 123 126 i (.pointer none) Try.underlying123 hi0 hz .i64 .i64 (n : Int) (n : Int) (by omega) (by omega) (by rw [hby]; omega) (by omega)
  rw [this, hsz, Nat.mul_one, Int.toNat_natCast, made_none, List.toArray_replicate]
/-- The greater of two numbers. -/
theorem max_arm {w : World} {ops : Array Oper} {rest : List Oper} {o : Oper} {a : Act} {Q : Exit → Act → World → Prop} (hgd : o.guard = none) (x y : Operand) (ho : o.op = .call { callee := .builtin .max, args := #[x, y], argTypes := #[28, 28] })
    (p q m : Int) (hx : a.eval x = .int .u64 p) (hy : a.eval y = .int .u64 q) (hm : (if p < q then q else p) = m) (h : wpList Try.prog ops Q rest (a.put o.dst (.int .u64 m)) w) : wpList Try.prog ops Q (o :: rest) a w := by
  refine wpList_plain hgd fun K hK => ?_
  have hrun : (Builtin.max_ #[28, 28] o.type #[.int .u64 p, .int .u64 q]).run Try.prog w = .ok (.int .u64 m) w := by
    have e : Builtin.max_ #[28, 28] o.type #[.int .u64 p, .int .u64 q] = pure (.int .u64 m) := by
      simp only [Builtin.max_, List.foldlM_cons, List.foldlM_nil, Builtin.max2, gt_iff_lt]
      rw [hm]
      rfl
    rw [e]
    rfl
  unfold Oper.wp
  simp [execOp, ho, resolve, invoke, builtin, hx, hy, hrun, Result.andThen]
  exact hK _ _ h
theorem info122 : (Try.prog.info? 122).map (fun i => (i.zero, i.size, i.bytes)) = some (some (.pointer none), 1, 8) := by kernel_rfl
/-- copy of pointers into a block. -/
theorem copy_row {w : World} {ops : Array Oper} {rest : List Oper} {o : Oper} {a : Act} {Q : Exit → Act → World → Prop} (hgd : o.guard = none) (d s : Operand)
    (ho : o.op = .call { callee := .builtin .copy, args := #[d, s], argTypes := #[111, 111] }) (g off dLen dCap : Nat) (D : Option Addr) (ad : Addr) (sLen sCap : Nat)
    (hd : a.eval d = .slice D dLen dCap) (hs : a.eval s = .slice (some ad) sLen sCap) (cur : List Value) (t : TypeId) (hg : Blk w g cur.toArray t) (cs : List Value) (hn : cs.length = min sLen dLen)
    (hD : 0 < cs.length → D = some ⟨g, off, none⟩) (hsrc : ∀ j v, cs[j]? = some v → w.cell? (ad.add j) = some v) (hfit : off + cs.length ≤ cur.length) (h1 : ∀ v ∈ cs, v.oneCell' = true)
    (h : ∀ w', Blk w' g (splice cur off cs).toArray t → (∀ i, i ≠ g → w'.heap[i]? = w.heap[i]?) → w'.heap.size = w.heap.size → (∀ B, B ≤ g → Below B w w') → wpList Try.prog ops Q rest (a.put o.dst (.int .i64 (cs.length : Nat))) w') :
    wpList Try.prog ops Q (o :: rest) a w := by
  have hsz : (Try.prog.info? 122).map (·.size) = some 1 := by kernel_rfl
  by_cases h0 : cs.length = 0
  · obtain rfl : cs = [] := List.eq_nil_of_length_eq_zero h0
    refine wpList_copy_nothing hgd d s 111 111 ho 122 Try.underlying111 hsz D (some ad) dLen dCap sLen sCap hd hs (by simpa using hn.symm) ?_
    exact h w (by simpa [splice] using hg) (fun _ _ => rfl) rfl (fun B _ => Below.refl _ _)
  · have hD' := hD (by omega)
    subst hD'
    refine wpList_copy_own hgd d s 111 111 ho 122 Try.underlying111 hsz g off dLen dCap ad sLen sCap hd hs cur.toArray t hg cs hn hsrc (by simpa using hfit) h1 ?_
    exact h (w.setRow g (cur.take off ++ (cs ++ cur.drop (off + cs.length))).toArray) (setRow_heap w g cur.toArray (cur.take off ++ (cs ++ cur.drop (off + cs.length))).toArray t (0, 0) hg) (fun i hi => setRow_other _ _ _ _ hi) (by simp) (fun B hB => below_setRow (Below.refl _ _) hB _)
/-- s[j:] of a row that begins its block. -/
theorem cut_rooms (g n c j : Nat) (hj : j ≤ n) (hc : n ≤ c) (D : Option Addr) (hD : D = if c = j then some ⟨g, 0, none⟩ else some ⟨g, j, none⟩) : ∀ W : World, (Instr.slice 111 (.slice (some ⟨g, 0, none⟩) n c) (some (.int .i64 j)) none none).run Try.prog W = .ok (.slice D (n - j) (c - j)) W := by
  obtain ⟨i, hi0, _, hsz, _⟩ := info_parts info122
  intro W
  have := cut_from (P := Try.prog) 111 122 .i64 Try.underlying111 hi0 1 hsz (some ⟨g, 0, none⟩) n c (j : Int) (by omega) (by omega) W
  rw [this, Int.toNat_natCast, hD, Option.map_some, add_at, Nat.zero_add, Nat.mul_one]
theorem Blk.new (w : World) (cs : Array Value) (t : TypeId) : Blk (w.alloc (.cells cs t)) w.heap.size cs t := blk_new w _
theorem Blk.below {w w' : World} {b : Nat} {cs : Array Value} {t : TypeId} (h : Blk w b cs t) (hb : Below w.heap.size w w') : Blk w' b cs t := h.move (hb.block b h.lt)
/-- What is known of a row that is not empty. -/
theorem own_open {w : World} {base n : Nat} {v : Value} {xs : List Value} (h : w.ownsRow base 122 1 v n xs) (hn : 0 < n) : ∃ (g c : Nat) (cur : List Value), v = .slice (some ⟨g, 0, none⟩) n c ∧ base ≤ g ∧ Blk w g cur.toArray 122 ∧ n ≤ c ∧ c ≤ maxLen ∧ cur.length = c ∧ cur.take n = xs := by
  obtain ⟨h1, ⟨_, h2⟩ | ⟨g, cap, cur, hv, hg, hh, h3, h4, h5, h6⟩⟩ := h
  · omega
  · exact ⟨g, cap, cur.toList, hv, hg, by simpa [Blk] using hh, h3, h4, by simp [h5], by simpa using h6⟩
theorem own_shut {w : World} {base n g c : Nat} {xs cur : List Value} (hg : base ≤ g) (hb : Blk w g cur.toArray 122) (hn : n ≤ c) (hc : c ≤ maxLen) (hl : cur.length = c) (hx : cur.take n = xs) : w.ownsRow base 122 1 (.slice (some ⟨g, 0, none⟩) n c) n xs :=
  ⟨by rw [← hx, List.length_take]; omega, .inr ⟨g, c, cur.toArray, rfl, hg, hb, hn, hc, by simp [hl], by simpa using hx⟩⟩
theorem row_put {cur xs : List Value} {z : Value} (n i : Nat) (p : Value) (hct : cur.take (n + 1) = xs ++ [z]) (hxl : xs.length = n) (hi : i ≤ n) (hcl : n + 1 ≤ cur.length) :
    ((splice cur (i + 1) (xs.drop i)).set i p).take (n + 1) = xs.take i ++ p :: xs.drop i := by
  have hat : ∀ j, j < n → cur[j]? = xs[j]? := fun j hj => by
    rw [← List.getElem?_take_of_lt (show j < n + 1 by omega), hct, List.getElem?_append_left (by omega)]
  have hdl : (xs.drop i).length = n - i := by rw [List.length_drop, hxl]
  refine List.ext_getElem? fun j => ?_
  rcases Nat.lt_or_ge j (n + 1) with c | c
  · rw [List.getElem?_take_of_lt c, List.getElem?_set]
    rcases Nat.lt_trichotomy j i with h | h | h
    · rw [if_neg (by omega), List.getElem?_append_left (by rw [List.length_take]; omega), List.getElem?_take_of_lt h]
      unfold splice
      rw [List.getElem?_append_left (by rw [List.length_take]; omega), List.getElem?_take_of_lt (by omega), hat j (by omega)]
    · subst h
      rw [if_pos rfl, if_pos (by rw [length_splice _ _ _ (by omega)]; omega), List.getElem?_append_right (by rw [List.length_take]; omega), List.length_take, hxl, Nat.min_eq_left hi, Nat.sub_self]
      rfl
    · rw [if_neg (by omega), List.getElem?_append_right (by rw [List.length_take]; omega), List.length_take, hxl, Nat.min_eq_left hi]
      obtain ⟨m, hm⟩ : ∃ m, j - i = m + 1 := ⟨j - i - 1, by omega⟩
      rw [hm, List.getElem?_cons_succ]
      unfold splice
      rw [List.getElem?_append_right (by rw [List.length_take]; omega), List.length_take, Nat.min_eq_left (by omega), List.getElem?_append_left (by omega), show j - (i + 1) = m from by omega]
  · rw [List.getElem?_eq_none (by rw [List.length_take]; omega), List.getElem?_eq_none (by simp; omega)]
theorem put_map (l : List Rm) (r : Rm) : (putRoom l r).map ptrR = (l.map ptrR).take (behind r.at_ l) ++ ptrR r :: (l.map ptrR).drop (behind r.at_ l) := by
  unfold putRoom
  rw [List.map_append, List.map_cons, List.map_take, List.map_drop]
theorem put_len (l : List Rm) (r : Rm) : (putRoom l r).length = l.length + 1 := by
  have := behind_le r.at_ l
  unfold putRoom
  rw [List.length_append, List.length_cons, List.length_take, List.length_drop]
  omega
-- append(row, p)
set_option maxRecDepth 100000 in
theorem row_append {W : World} {ops : Array Oper} {rest : List Oper} {o : Oper} {a : Act} {Q : Exit → Act → World → Prop} (hgd : o.guard = none) (s x : Operand)
    (ho : o.op = .call { callee := .builtin .append, args := #[s, x], argTypes := #[111, 111] }) (base : Nat) (v : Value) (n : Nat) (xs : List Value) (p : Value) (hs : a.eval s = v) (hx : a.eval x = .slice (some ⟨W.heap.size, 0, none⟩) 1 1) (hp : p.oneCell' = true)
    (HO : Row W base v n xs) (hbase : base ≤ W.heap.size) (hl : n ≤ 100000)
    (h : ∀ v1 w1, w1.ownsRow base 122 1 v1 (n + 1) (xs ++ [p]) → W.grownBy w1 v.ownBlock → (v1.ownBlock = v.ownBlock ∨ ∃ b, v1.ownBlock = some b ∧ W.heap.size ≤ b) → wpList Try.prog ops Q rest (a.put o.dst v1) w1) :
    wpList Try.prog ops Q (o :: rest) a (W.alloc (.cells #[p] 122)) := by
  rcases HO with HO | ⟨g, cur, hv, h1, h2, h3, h4, h5⟩
  · exact print_append_cells (W := W) (w0 := W) base hgd s x 111 122 (.pointer none) 1 8 ho Try.underlying111 info122 rfl (by omega) (by omega) v n xs [p] hs hx rfl (by simpa using hp) HO (Below.refl _ _) hbase (by omega) (fun v1 w1 a1 _ a3 a4 => h v1 w1 a1 a3 a4)
  · obtain ⟨i0, hi, hz0, hz1, hz2⟩ := info_parts info122
    subst hv
    have hxl : xs.length = n := by rw [← h5, List.length_take]; omega
    refine wpList_append_grows (W.alloc (.cells #[p] 122)) hgd s x 111 ho 122 i0 (.pointer none) 1 8 Try.underlying111 hi hz0 hz1 hz2 rfl (by omega) (some ⟨g, 0, none⟩) n n xs hs (fun e => by cases e) (by omega) (fun b e j u hu => ?_) ⟨W.heap.size, 0, none⟩ 1 1 [p] hx rfl (fun j u hu => ?_) (by simpa using hp) (by omega) (by unfold maxLen; omega) (by omega) (fun v1 w1 r1 r2 => ?_)
    · injection e with e
      subst e
      rw [add_plain]
      have hc : cur[j]? = some u := by
        have hj := (List.getElem?_eq_some_iff.1 hu).1
        rw [← h5, List.getElem?_take_of_lt (by omega)] at hu
        exact hu
      have hB : Blk (W.alloc (.cells #[p] 122)) g cur.toArray 122 := Blk.below (w := W) h2 (below_alloc (Below.refl _ _) _)
      exact hB.cell j u (by rw [List.getElem?_toArray]; exact hc)
    · rw [add_plain]
      exact (Blk.new W #[p] 122).cell j u (by simpa using hu)
    · have hsz : W.heap.size ≤ (W.alloc (.cells #[p] 122)).heap.size := by simp
      have hb := below_alloc (Below.refl W.heap.size W) (.cells #[p] 122)
      generalize W.alloc (.cells #[p] 122) = W1 at *
      refine h v1 w1 (own_weaken r1 (Nat.le_trans hbase hsz)) ?_ (.inr ?_)
      · exact ⟨r2.os.trans hb.os, r2.tape.trans hb.tape, r2.output.trans hb.output, Nat.le_trans hsz r2.size, fun k hk _ => (r2.block k (Nat.lt_of_lt_of_le hk hsz) (by simp)).trans (hb.block k hk)⟩
      · obtain ⟨g1, c1, cur1, rfl, hb1, _⟩ := own_open r1 (by omega)
        exact ⟨g1, rfl, Nat.le_trans hsz hb1⟩
end Go.Proofs.Ytmpahimeljbliaa.Vm
