/- Two buffers of one call: what is laid into one leaves the other as it was. No condition beyond those of each lemma. -/
import Derived.Test.YtmpahimeljbliaaZipCentral
namespace Go.Proofs.Ytmpahimeljbliaa.ZipWalk
open Go.RowKit Go.Proofs Go.Proofs.Ytmpahimeljbliaa.Buf Go.Proofs.YtmpahimeljbliaaW.PrintWords Go.Proofs.YtmpahimeljbliaaW.PrintLast Go.Proofs.YtmpahimeljbliaaW.PrintMore

/-- A buffer beside another one that a step has turned. -/
theorem BufV.beside {base : Nat} {W W' : World} {b c : Nat} {v v' u : Value} {xs ys : List Int} (h : BufV base W c u ys) (hb : BufV base W b v xs) (h2 : Step W W' b v v') (hne : c ≠ b) (ho : ∀ k, u.ownBlock = some k → v.ownBlock ≠ some k) : BufV base W' c u ys :=
  ⟨(h2.block c h.box.lt hne (fun e => h.box.not_row (by decide) hb.row e.symm)).trans h.box,
    own_move h.row (fun k hk => h2.block k (own_lt h.row k hk) (fun e => hb.box.not_row (by decide) h.row (by rw [hk, e])) (ho k hk)), h.base⟩
/-- The two buffers of zip.Make. -/
structure Two (w0 W : World) (f c : Nat) (vf vc : Value) (F C : List Int) : Prop where
  lf : LS w0 W f vf F
  lc : LS w0 W c vc C
  ne : f ≠ c
  own : ∀ k, vf.ownBlock = some k → vc.ownBlock ≠ some k
theorem Two.stepF {w0 W W' : World} {f c : Nat} {vf vf' vc : Value} {F F' C : List Int} (h : Two w0 W f c vf vc F C) (h1 : BufV w0.heap.size W' f vf' F') (h2 : Step W W' f vf vf') : Two w0 W' f c vf' vc F' C := by
  have hc := BufV.beside h.lc.buf h.lf.buf h2 h.ne.symm (fun k hk e => h.own k e hk)
  refine ⟨h.lf.next h1 h2, ⟨hc, (h.lf.next h1 h2).bel⟩, h.ne, fun k hk e => ?_⟩
  have hlt := own_lt h.lc.buf.row k e
  rcases h2.own with q | ⟨g, q, hg⟩
  · rw [q] at hk
    exact h.own k hk e
  · rw [q] at hk
    cases hk
    omega
theorem Two.stepC {w0 W W' : World} {f c : Nat} {vf vc vc' : Value} {F C C' : List Int} (h : Two w0 W f c vf vc F C) (h1 : BufV w0.heap.size W' c vc' C') (h2 : Step W W' c vc vc') : Two w0 W' f c vf vc' F C' := by
  have hf := BufV.beside h.lf.buf h.lc.buf h2 h.ne (fun k hk => h.own k hk)
  refine ⟨⟨hf, (h.lc.next h1 h2).bel⟩, h.lc.next h1 h2, h.ne, fun k hk e => ?_⟩
  have hlt := own_lt h.lf.buf.row k hk
  rcases h2.own with q | ⟨g, q, hg⟩
  · rw [q] at e
    exact h.own k hk e
  · rw [q] at e
    cases e
    omega
theorem Two.far {w0 W W' : World} {f c : Nat} {vf vc : Value} {F C : List Int} (h : Two w0 W f c vf vc F C) (hb : Below W.heap.size W W') : Two w0 W' f c vf vc F C := ⟨h.lf.far hb, h.lc.far hb, h.ne, h.own⟩
/-- The two as they are made. -/
theorem Two.start (w0 : World) : Two w0 ((w0.alloc (.cells #[.slice none 0 0] 149)).alloc (.cells #[.slice none 0 0] 149)) w0.heap.size (w0.alloc (.cells #[.slice none 0 0] 149)).heap.size (.slice none 0 0) (.slice none 0 0) [] [] := by
  have hs : (w0.alloc (.cells #[.slice none 0 0] 149)).heap.size = w0.heap.size + 1 := by simp
  have b1 : Below w0.heap.size w0 (w0.alloc (.cells #[.slice none 0 0] 149)) := below_alloc (Below.refl _ _) _
  have b2 : Below w0.heap.size w0 ((w0.alloc (.cells #[.slice none 0 0] 149)).alloc (.cells #[.slice none 0 0] 149)) := below_alloc b1 _
  refine ⟨⟨⟨(Boxed.new _ _ _).alloc _, World.ownsRow_nil _ _ _ _, Nat.le_refl _⟩, b2⟩, ⟨⟨Boxed.new _ _ _, World.ownsRow_nil _ _ _ _, by omega⟩, b2⟩, by omega, fun k hk => by simp [Value.ownBlock] at hk⟩
end Go.Proofs.Ytmpahimeljbliaa.ZipWalk
