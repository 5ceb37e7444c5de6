/- Structs that fill a block: stores at once, with the world behind them as a letter; the state of head.Parse between its steps. No condition beyond those of each lemma. -/
import Derived.Test.YtlegpojjbeglhaaPx6
import Derived.Test.YtlegpojjbeglhaaHeadWalk
import Derived.Deep.MidRow
namespace Go.Proofs.Ytlegpojjbeglhaa.HeadBox
set_option linter.unusedVariables false
open Go.RowKit Go.Proofs Go.Proofs.Ytlegpojjbeglhaa.P Go.Proofs.YtlegpojjbeglhaaW.PrintWords Go.Proofs.YtlegpojjbeglhaaW.PrintLast Go.Proofs.YtlegpojjbeglhaaW.PrintMore

/-- cells with so many put from a place on. -/
def putMany (cs : Array Value) : Nat → List Value → Array Value
  | _, [] => cs
  | o, v :: r => putMany (cs.setIfInBounds o v) (o + 1) r
theorem blk_puts (g : Nat) (t : TypeId) : ∀ (vs : List Value) (o : Nat) (w : World) (cs : Array Value), w.heap[g]? = some (.cells cs t (0, 0)) → (w.setCells g o vs).heap[g]? = some (.cells (putMany cs o vs) t (0, 0))
  | [], _, _, _, h => h
  | v :: r, o, w, cs, h => blk_puts g t r (o + 1) (w.setCell ⟨g, o, none⟩ v) _ (blk_set h o v)
theorem heap_fars (g i : Nat) (h : i ≠ g) : ∀ (vs : List Value) (o : Nat) (w : World), (w.setCells g o vs).heap[i]? = w.heap[i]?
  | [], _, _ => rfl
  | v :: r, o, w => (heap_fars g i h r (o + 1) (w.setCell ⟨g, o, none⟩ v)).trans (Below.heap_setCell w ⟨g, o, none⟩ v i h)
theorem below_puts (g : Nat) (w : World) (hg : w.heap.size ≤ g) : ∀ (vs : List Value) (o : Nat) (W : World), Below w.heap.size w W → Below w.heap.size w (W.setCells g o vs)
  | [], _, _, h => h
  | v :: r, o, W, h => below_puts g w hg r (o + 1) _ (below_set h hg)
theorem size_puts (g : Nat) : ∀ (vs : List Value) (o : Nat) (W : World), (W.setCells g o vs).heap.size = W.heap.size
  | [], _, _ => rfl
  | v :: r, o, W => (size_puts g r (o + 1) (W.setCell ⟨g, o, none⟩ v)).trans (by simp [World.setCell])
theorem R_puts {α : Type} {d : Kd α} {e base : Nat} {ok : Nat → Prop} {v : Value} {xs : List α} (g t : Nat) (ht : ∀ q, q ∈ e :: d.E → q ≠ t) : ∀ (vs : List Value) (o : Nat) (w : World) (cs : Array Value), w.heap[g]? = some (.cells cs t (0, 0)) → d.R e w base ok v xs → d.R e (w.setCells g o vs) base ok v xs
  | [], _, _, _, _, h => h
  | u :: r, o, w, cs, hb, h => R_puts g t ht r (o + 1) (w.setCell ⟨g, o, none⟩ u) _ (blk_set hb o u) (Kd.R_set h hb ht o u)
theorem there_blk {w : World} {g t : Nat} {cs : Array Value} (h : w.heap[g]? = some (.cells cs t (0, 0))) (o n : Nat) (hn : o + n ≤ cs.size) : w.there g o n := fun j hj => by
  refine ⟨?_, blk_frozen h _⟩
  rw [blk_cell h, Array.getElem?_eq_getElem (by omega)]
  rfl
theorem store_letter {P : Program} {ops : Array Oper} {rest : List Oper} {o : Oper} {a : Act} {Q : Exit → Act → World → Prop} {W : World} {ty : TypeId} {x y : Operand} {t : TypeId} {cs : Array Value} (g off : Nat) (cells : Array Value)
    (hgd : o.guard = none) (ho : o.op = .store ty x y) (hx : a.eval x = .pointer (some ⟨g, off, none⟩)) (hy : a.eval y = .agg cells) (hb : W.heap[g]? = some (.cells cs t (0, 0))) (hn : off + cells.size ≤ cs.size)
    (hi : (P.info? ty).map (·.size) = some cells.size) (h1 : cells.all (·.oneCell') = true)
    (h : ∀ W', W' = W.setCells g off cells.toList → wpList P ops Q rest (a.put o.dst undef) W') : wpList P ops Q (o :: rest) a W :=
  wpList_store_mid hgd ty x y ho g off cells hx hy (there_blk hb off cells.size hn) hi h1 (h _ rfl)
theorem load_block {P : Program} {ops : Array Oper} {rest : List Oper} {o : Oper} {a : Act} {Q : Exit → Act → World → Prop} {W : World} {ty : TypeId} {x : Operand} {g : Nat} {t : TypeId} {cs : Array Value} {d : TypeDesc}
    (hgd : o.guard = none) (ho : o.op = .load ty x) (hx : a.eval x = .pointer (some ⟨g, 0, none⟩)) (hb : W.heap[g]? = some (.cells cs t (0, 0)))
    (hu : P.underlying ty = some d) (hd : d.isRow = true) (hi : (P.info? ty).map (·.size) = some cs.size)
    (h : wpList P ops Q rest (a.put o.dst (.agg cs)) W) : wpList P ops Q (o :: rest) a W := HeadWalk.load_block hgd ho hx hb hu hd hi h

/-- A header's cells; those of the headers. -/
def cellsP (p : S32) : Array Value := #[.int .u32 p.f0, .int .u32 p.f1, .int .u64 p.f2, .int .u64 p.f3, .int .u64 p.f4, .int .u64 p.f5, .int .u64 p.f6]
def cellsH (m : Int) (hv : Value) (d e : S32) : Array Value := #[.int .u16 m, hv, .int .u32 d.f0, .int .u32 d.f1, .int .u64 d.f2, .int .u64 d.f3, .int .u64 d.f4, .int .u64 d.f5, .int .u64 d.f6, .int .u32 e.f0, .int .u32 e.f1, .int .u64 e.f2, .int .u64 e.f3, .int .u64 e.f4, .int .u64 e.f5, .int .u64 e.f6]
def zeroH : Array Value := #[.int .u16 0, .slice none 0 0, .int .u32 0, .int .u32 0, .int .u64 0, .int .u64 0, .int .u64 0, .int .u64 0, .int .u64 0, .int .u32 0, .int .u32 0, .int .u64 0, .int .u64 0, .int .u64 0, .int .u64 0, .int .u64 0]
/-- Between two steps of head.Parse: the result's block, the block of what is gathered, the table, the parts so far. -/
structure PS (w W : World) (g1 g2 : Nat) (c1 c2 : Array Value) (tv hv : Value) (t ld : List S32) : Prop where
  b1 : W.heap[g1]? = some (.cells c1 37 (0, 0))
  b2 : W.heap[g2]? = some (.cells c2 37 (0, 0))
  ne : g1 ≠ g2
  e1 : w.heap.size ≤ g1
  e2 : w.heap.size ≤ g2
  bel : Below w.heap.size w W
  rt : Kd.R k32 32 W w.heap.size (fun k => some k ≠ hv.ownBlock) tv t
  rl : Kd.R k32 32 W w.heap.size (fun k => some k ≠ tv.ownBlock) hv ld
theorem PS.below {w W W' : World} {g1 g2 : Nat} {c1 c2 : Array Value} {tv hv : Value} {t ld : List S32} (h : PS w W g1 g2 c1 c2 tv hv t ld) (hb : Below W.heap.size W W') : PS w W' g1 g2 c1 c2 tv hv t ld :=
  ⟨blk_below h.b1 hb, blk_below h.b2 hb, h.ne, h.e1, h.e2, below_step h.bel hb, Kd.R_below h.rt hb, Kd.R_below h.rl hb⟩
theorem PS.put1 {w W W' : World} {g1 g2 : Nat} {c1 c2 c' : Array Value} {tv hv : Value} {t ld : List S32} (h : PS w W g1 g2 c1 c2 tv hv t ld) (o : Nat) (vs : List Value) (he : putMany c1 o vs = c') (hW : W' = W.setCells g1 o vs) : PS w W' g1 g2 c' c2 tv hv t ld := by
  subst hW
  subst he
  exact ⟨blk_puts _ _ _ _ _ _ h.b1, (heap_fars g1 g2 h.ne.symm vs o W).trans h.b2, h.ne, h.e1, h.e2, below_puts g1 w h.e1 vs o W h.bel, R_puts g1 37 (by decide) vs o W c1 h.b1 h.rt, R_puts g1 37 (by decide) vs o W c1 h.b1 h.rl⟩
theorem PS.put2 {w W W' : World} {g1 g2 : Nat} {c1 c2 c' : Array Value} {tv hv : Value} {t ld : List S32} (h : PS w W g1 g2 c1 c2 tv hv t ld) (o : Nat) (vs : List Value) (he : putMany c2 o vs = c') (hW : W' = W.setCells g2 o vs) : PS w W' g1 g2 c1 c' tv hv t ld := by
  subst hW
  subst he
  exact ⟨(heap_fars g2 g1 h.ne vs o W).trans h.b1, blk_puts _ _ _ _ _ _ h.b2, h.ne, h.e1, h.e2, below_puts g2 w h.e2 vs o W h.bel, R_puts g2 37 (by decide) vs o W c2 h.b2 h.rt, R_puts g2 37 (by decide) vs o W c2 h.b2 h.rl⟩
theorem PS.grown {w W w1 : World} {g1 g2 : Nat} {c1 c2 : Array Value} {tv hv v1 : Value} {t ld ld' : List S32} (h : PS w W g1 g2 c1 c2 tv hv t ld) (ho : Kd.R k32 32 w1 w.heap.size (fun k => some k ≠ tv.ownBlock) v1 ld') (hb : Below w.heap.size w w1) (hg : W.grownBy w1 hv.ownBlock) (hat : v1.ownBlock = hv.ownBlock ∨ ∃ b, v1.ownBlock = some b ∧ W.heap.size ≤ b) : PS w w1 g1 g2 c1 c2 tv v1 t ld' :=
  ⟨blk_grown h.b1 hg (Kd.R_ne h.rl h.b1 (by decide)), blk_grown h.b2 hg (Kd.R_ne h.rl h.b2 (by decide)), h.ne, h.e1, h.e2, hb, Kd.R_mono (Kd.R_after (ok := fun _ => True) (Kd.R_mono h.rt (fun _ hk => ⟨trivial, hk⟩)) hg hat) (fun _ hk => hk.2), ho⟩
theorem PS.start {w W w7 : World} {g1 g2 : Nat} {tv : Value} {t : List S32} (hg2 : g2 = W.heap.size) (b1 : W.heap[g1]? = some (.cells zeroH 37 (0, 0))) (e1 : w.heap.size ≤ g1) (bel : Below w.heap.size w W) (rt : Kd.R k32 32 W w.heap.size (fun _ => True) tv t) (b2 : w7.heap[g2]? = some (.cells zeroH 37 (0, 0))) (hb : Below W.heap.size W w7) : PS w w7 g1 g2 zeroH zeroH tv (.slice none 0 0) t [] :=
  ⟨blk_below b1 hb, b2, by have := blk_lt b1; omega, e1, by have := below_size bel; omega, below_step bel hb, Kd.R_mono (Kd.R_below rt hb) (fun _ _ => by simp [Value.ownBlock]), Kd.R_nil _ _ _ _ _⟩
theorem k32_M (w : World) (base : Nat) (ok : Nat → Prop) (p : S32) : k32.M w base ok p (cellsP p).toList := k32_mkM w base ok p
theorem PS.fresh {w W : World} {g1 g2 : Nat} {c1 c2 : Array Value} {tv hv : Value} {t ld : List S32} (h : PS w W g1 g2 c1 c2 tv hv t ld) : ∀ k, W.heap.size ≤ k → some k ≠ tv.ownBlock := Kd.fresh' (Kd.R_lt h.rt)
theorem PS.cell2 {w W : World} {g1 g2 : Nat} {c1 c2 : Array Value} {tv hv : Value} {t ld : List S32} (h : PS w W g1 g2 c1 c2 tv hv t ld) (i : Nat) (v : Value) (hc : c2[i]? = some v) : W.cell? ⟨g2, i, none⟩ = some v ∧ W.frozen? ⟨g2, i, none⟩ = false := ⟨(blk_cell h.b2 i).trans hc, blk_frozen h.b2 i⟩
theorem one_zeroH : zeroH.all (·.oneCell') = true := all_oneCell_toArray (by simp [Value.oneCell'])
theorem one_cellsP (p : S32) : (cellsP p).all (·.oneCell') = true := all_oneCell_toArray (by simp [Value.oneCell'])
theorem one_cellsH (m : Int) (A : Option Addr) (n c : Nat) (d e : S32) : (cellsH m (.slice A n c) d e).all (·.oneCell') = true := all_oneCell_toArray (by simp [Value.oneCell'])
theorem put_zero : putMany zeroH 0 zeroH.toList = zeroH := by simp [putMany, zeroH]
theorem put_m (m : Int) : putMany zeroH 0 [.int .u16 m] = cellsH m (.slice none 0 0) ⟨0, 0, 0, 0, 0, 0, 0⟩ ⟨0, 0, 0, 0, 0, 0, 0⟩ := by simp [putMany, zeroH, cellsH]
theorem put_v (m : Int) (v v1 : Value) (d e : S32) : putMany (cellsH m v d e) 1 [v1] = cellsH m v1 d e := by simp [putMany, cellsH]
theorem put_d (m : Int) (v : Value) (d e p : S32) : putMany (cellsH m v d e) 2 (cellsP p).toList = cellsH m v p e := by simp [putMany, cellsH, cellsP]
theorem put_e (m : Int) (v : Value) (d e p : S32) : putMany (cellsH m v d e) 9 (cellsP p).toList = cellsH m v d p := by simp [putMany, cellsH, cellsP]
theorem put_p (p : S32) : putMany (cellsP ⟨0, 0, 0, 0, 0, 0, 0⟩) 0 (cellsP p).toList = cellsP p := by simp [putMany, cellsP]
theorem put_all (m : Int) (v : Value) (d e : S32) : putMany zeroH 0 (cellsH m v d e).toList = cellsH m v d e := by simp [putMany, zeroH, cellsH]
end Go.Proofs.Ytlegpojjbeglhaa.HeadBox
