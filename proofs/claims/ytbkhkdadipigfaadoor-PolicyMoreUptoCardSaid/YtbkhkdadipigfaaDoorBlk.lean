/-
  A struct that fills a block is loaded at once: one step for all its cells. No condition beyond those that stand in each lemma.
-/
import Derived.Test.YtbkhkdadipigfaaDoorWWords
import Derived.Test.YtbkhkdadipigfaaDoorWMore
import Derived.Deep.MidRow
namespace Go.Proofs.YtbkhkdadipigfaaDoor.Blk
open Go Go.RowKit Go.Proofs.YtbkhkdadipigfaaDoorW.PrintWords Go.Proofs.YtbkhkdadipigfaaDoorW.PrintMore
theorem range_blk {w : World} {g : Nat} {t : TypeId} {cs : Array Value} (h : w.heap[g]? = some (.cells cs t (0, 0))) : w.rangeAt g 0 cs.toList := by
  intro j v hv
  rw [Nat.zero_add, blk_cell h]
  simpa using hv
theorem load_block {P : Program} {ops : Array Oper} {rest : List Oper} {o : Oper} {a : Act} {Q : Exit → Act → World → Prop} {W : World} {ty : TypeId} {x : Operand} {g : Nat} {t : TypeId} {cs : Array Value} {d : TypeDesc}
    (hgd : o.guard = none) (ho : o.op = .load ty x) (hx : a.eval x = .pointer (some ⟨g, 0, none⟩)) (hb : W.heap[g]? = some (.cells cs t (0, 0)))
    (hu : P.underlying ty = some d) (hd : d.isRow = true) (hi : (P.info? ty).map (·.size) = some cs.size)
    (h : wpList P ops Q rest (a.put o.dst (.agg cs)) W) : wpList P ops Q (o :: rest) a W :=
  wpList_load_mid hgd ty x ho g 0 hx cs.toList d (range_blk hb) hu hd (by simpa using hi) (by simpa using h)
end Go.Proofs.YtbkhkdadipigfaaDoor.Blk
