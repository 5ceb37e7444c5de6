/- What zip.list and the document's List hand back, as rows in memory. No condition. -/
import Derived.Test.YtmpahimeljbliaaZipIn
import Derived.Test.YtmpahimeljbliaaZipMake
namespace Go.Proofs.Ytmpahimeljbliaa.ZipWalk
open Go.RowKit Go.Proofs Go.Proofs.YtmpahimeljbliaaW.PrintWords Go.Proofs.YtmpahimeljbliaaW.PrintMore
open ZipPure (Ent listOf)

abbrev RowE := ByteArray × Int × Int × Int × Int
/-- An entry as it lies in a row. -/
def kE : Kd RowE := Kd.pair Kd.string (Kd.pair (Kd.int .i64) (Kd.pair (Kd.int .u64) (Kd.pair (Kd.int .u64) (Kd.int .u64))))
def eOf (e : Ent) : RowE := (strOfNums e.name, e.method, e.size, e.stored, e.at_)
/-- What zip.list hands back: the entries, where the list begins, the error. -/
def listRes (l : List Int) : List RowE × Int × Int := match listOf l with
  | some (r, c) => (r.map eOf, (c : Int), 0)
  | none => ([], 0, 70)
/-- What a call leaves that hands back such a row. -/
def Listed (e : Nat) (w : World) (r : List RowE × Int × Int) (en : Ending) (w' : World) : Prop :=
  ∃ v, en = .returned (.tuple #[v, .int .u64 r.2.1, .int .i64 r.2.2]) ∧ Kd.R kE e w' w.heap.size (fun _ => True) v r.1 ∧ Below w.heap.size w w'
theorem R_map {α β : Type} {d : Kd α} {d' : Kd β} {f : α → β} (hsz : d.sz = d'.sz) (hM : ∀ w base ok x cs, d.M w base ok x cs → d'.M w base ok (f x) cs) {e : Nat} {w : World} {base : Nat} {ok : Nat → Prop} {v : Value} {xs : List α} (h : d.R e w base ok v xs) : d'.R e w base ok v (xs.map f) := by
  obtain ⟨h0, inner, ho, hr⟩ := h
  refine ⟨h0, inner, ?_, ?_, ?_⟩
  · rw [← hsz, List.length_map]
    exact ho
  · rw [← hsz, List.length_map]
    exact hr.1
  · intro j p hp
    rw [List.getElem?_map] at hp
    obtain ⟨q, hq, rfl⟩ := Option.map_eq_some_iff.1 hp
    rw [← hsz]
    exact hM _ _ _ _ _ (hr.2 j q hq)
end Go.Proofs.Ytmpahimeljbliaa.ZipWalk
