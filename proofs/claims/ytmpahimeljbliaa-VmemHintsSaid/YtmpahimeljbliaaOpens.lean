/-
  Whatever can be read as data of a type is of the print's kind for that type: numbers, bools, texts, slices, structs. No condition beyond those that stand in each lemma.
-/
import Derived.Test.YtmpahimeljbliaaWWords
import Derived.Test.YtmpahimeljbliaaWMore
import Derived.Deep.Slices
import Derived.Deep.Fields
import Derived.ChangeSame
import Derived.Lib.SmallJoins
namespace Go.Proofs.Ytmpahimeljbliaa.Opens
open Go.RowKit Go.ChangeShapes Go.WideShapes Go.Deep Go.Proofs.YtmpahimeljbliaaW.PrintWords

/-- Every reading of type t is a value of kind d that meets Q. -/
def Opens {α : Type} (P : Program) (d : Kd α) (Q : α → Prop) (t : TypeId) : Prop :=
  P.cellsOf t = d.sz ∧ ∀ (H : Type) (enc : TypeId × Value → H) (w : World) (base : Nat) (spare : Nat → Bool) (held : Bool) (fuel : Nat) (cs : List Value) (x : DataW H × List MemPlace),
    DataW.trod enc P w base spare held fuel t cs = some x → ∃ v, d.K w v cs ∧ Q v

theorem opens_int {P : Program} {t : TypeId} {k : IntKind} (ht : P.underlying t = some (.int k)) (hc : P.cellsOf t = 1) : Opens P (Kd.int k) (fun n => (Lit.int k n).wf = true) t :=
  ⟨hc, fun _ _ _ _ _ _ _ _ _ h => by
    obtain ⟨n, e, _, hw⟩ := DataW.trod_int ht h
    exact ⟨n, e, hw⟩⟩
theorem opens_bool {P : Program} {t : TypeId} (ht : P.underlying t = some .bool) (hc : P.cellsOf t = 1) : Opens P Kd.bool (fun _ => True) t :=
  ⟨hc, fun _ _ _ _ _ _ _ _ _ h => by
    obtain ⟨b, e, _⟩ := DataW.trod_bool ht h
    exact ⟨b, e, trivial⟩⟩
theorem opens_string {P : Program} {t : TypeId} (ht : P.underlying t = some .string) (hc : P.cellsOf t = 1) : Opens P Kd.string (fun s => s.size ≤ maxLen) t :=
  ⟨hc, fun _ _ _ _ _ _ _ _ _ h => by
    obtain ⟨s, e, _, hs⟩ := DataW.trod_string ht h
    exact ⟨s, e, hs⟩⟩
theorem list_of {α : Type} {p : Nat → α → Prop} : ∀ (n : Nat), (∀ i, i < n → ∃ v, p i v) → ∃ xs : List α, xs.length = n ∧ ∀ j v, xs[j]? = some v → p j v
  | 0, _ => ⟨[], rfl, fun j v h => by simp at h⟩
  | n + 1, h => by
    obtain ⟨xs, hl, hx⟩ := list_of n (fun i hi => h i (by omega))
    obtain ⟨v, hv⟩ := h n (by omega)
    refine ⟨xs ++ [v], by simp [hl], fun j u hj => ?_⟩
    by_cases hjn : j < n
    · rw [List.getElem?_append_left (by omega)] at hj
      exact hx j u hj
    · rw [List.getElem?_append_right (by omega), hl] at hj
      cases hq : j - n with
      | zero =>
        rw [hq] at hj
        simp at hj
        obtain rfl : j = n := by omega
        rw [← hj]
        exact hv
      | succ m => rw [hq] at hj; simp at hj
theorem opens_slice {α : Type} {P : Program} {d : Kd α} {Q : α → Prop} {t e : TypeId} (ht : P.underlying t = some (.slice e)) (hc : P.cellsOf t = 1) (hd : Opens P d Q e) : Opens P (Kd.slice e d) (fun xs => ∀ x ∈ xs, Q x) t := by
  refine ⟨hc, fun H enc w base spare held fuel cs x h => ?_⟩
  obtain ⟨hz, ho⟩ := hd
  rcases open_slice ht h with ⟨e1, _⟩ | ⟨a, len, cap, m, n, D, Pl, e1, _, hl, hm, hmm, _, hi⟩
  · exact ⟨[], ⟨none, 0, e1, Nat.le_refl _, Kd.C_nil d w⟩, fun x hx => by simp at hx⟩
  · have hle : len ≤ m := by rw [hmm]; split <;> omega
    have hml : (maxLen : Nat) = 9223372036854775807 := rfl
    obtain ⟨xs, hxl, hx⟩ := list_of (p := fun i v => (∃ c, c.length = d.sz ∧ d.K w v c ∧ ∀ j u, c[j]? = some u → w.cell? (a.add (i * d.sz + j)) = some u) ∧ Q v) len (fun i hil => by
      obtain ⟨cs', hcs, ht'⟩ := hi i (by omega)
      obtain ⟨v, hk, hq⟩ := ho H enc w base spare held n cs' _ ht'
      obtain ⟨_, hlen, hat⟩ := World.cells?_some hcs
      rw [hz] at hlen hat
      refine ⟨v, ⟨cs', hlen, hk, fun j u hj => ?_⟩, hq⟩
      have hjl : j < d.sz := by rw [← hlen]; exact (List.getElem?_eq_some_iff.1 hj).1
      have := hat j hjl
      rw [← hj, ← this, Deep.add_add])
    refine ⟨xs, ⟨some a, cap, by rw [hxl]; exact e1, by omega, hxl ▸ ⟨hxl, by omega, fun _ => ⟨a, rfl, fun j p hj => (hx j p hj).1⟩⟩⟩, fun x hxm => ?_⟩
    obtain ⟨j, hj⟩ := List.getElem?_of_mem hxm
    exact (hx j x hj).2

/-- The same of fields in line, from a place on. -/
def OpensF {α : Type} (P : Program) (d : Kd α) (Q : α → Prop) (fs : List Field) (off : Nat) : Prop :=
  ∀ (H : Type) (enc : TypeId × Value → H) (w : World) (base : Nat) (spare : Nat → Bool) (held : Bool) (fuel : Nat) (cs : List Value),
    (∀ f ∈ fs, ∃ x, DataW.trod enc P w base spare held fuel f.type ((cs.drop f.offset).take (P.cellsOf f.type)) = some x) → ∃ v, d.K w v ((cs.drop off).take d.sz) ∧ Q v
theorem opensF_one {α : Type} {P : Program} {d : Kd α} {Q : α → Prop} {f : Field} {off : Nat} (ho : f.offset = off) (hd : Opens P d Q f.type) : OpensF P d Q [f] off := by
  intro H enc w base spare held fuel cs h
  obtain ⟨x, hx⟩ := h f (by simp)
  rw [ho, hd.1] at hx
  exact hd.2 H enc w base spare held fuel _ x hx
theorem opensF_cons {α β : Type} {P : Program} {d : Kd α} {d' : Kd β} {Q : α → Prop} {Q' : β → Prop} {f : Field} {r : List Field} {off off' : Nat} (ho : f.offset = off) (ho' : off + d.sz = off') (hd : Opens P d Q f.type) (hr : OpensF P d' Q' r off') :
    OpensF P (Kd.pair d d') (fun x => Q x.1 ∧ Q' x.2) (f :: r) off := by
  intro H enc w base spare held fuel cs h
  obtain ⟨x, hx⟩ := h f (by simp)
  rw [ho, hd.1] at hx
  obtain ⟨v, hv, hq⟩ := hd.2 H enc w base spare held fuel _ x hx
  obtain ⟨v', hv', hq'⟩ := hr H enc w base spare held fuel cs (fun g hg => h g (by simp [hg]))
  refine ⟨(v, v'), ⟨_, _, ?_, hv, hv'⟩, hq, hq'⟩
  show (cs.drop off).take (d.sz + d'.sz) = _
  rw [List.take_add, List.drop_drop, ho']
theorem opens_struct {α β : Type} {P : Program} {d : Kd α} {f : β → α} {g : α → β} {Q : α → Prop} {t : TypeId} {fs : Array Field} (ht : P.underlying t = some (.struct fs)) (hc : P.cellsOf t = d.sz) (hfg : ∀ x, f (g x) = x) (hd : OpensF P d Q fs.toList 0) :
    Opens P (Kd.iso d f) (fun x => Q (f x)) t := by
  refine ⟨hc, fun H enc w base spare held fuel cs x h => ?_⟩
  obtain ⟨xs, n, _, _, hl, hxl, hf⟩ := DataW.trod_struct ht h
  obtain ⟨v, hv, hq⟩ := hd H enc w base spare held n cs (fun fl hfl => by
    obtain ⟨i, hi⟩ := List.getElem?_of_mem hfl
    have hi' : fs[i]? = some fl := by simpa using hi
    have hlt : i < xs.length := by rw [hxl]; exact (Array.getElem?_eq_some_iff.1 hi').1
    exact ⟨xs[i], (hf i fl hi').trans (List.getElem?_eq_getElem hlt)⟩)
  rw [List.drop_zero, List.take_of_length_le (by omega)] at hv
  exact ⟨g v, by show d.K w (f (g v)) cs; rw [hfg]; exact hv, by show Q (f (g v)); rw [hfg]; exact hq⟩

/-- An argument that came in is of its kind. -/
theorem opens_arg {α : Type} {P : Program} {d : Kd α} {Q : α → Prop} {t : TypeId} (hd : Opens P d Q t) {H : Type} {enc : TypeId × Value → H} {w : World} {base : Nat} {spare : Nat → Bool} {held : Bool} {v : Value} {x : DataW H} {p : List MemPlace}
    (h : DataW.Trod enc P w base spare held t v x p) : ∃ y, d.K w y v.cells.toList ∧ Q y := by
  obtain ⟨fuel, hf⟩ := h
  exact hd.2 H enc w base spare held fuel v.cells.toList _ hf

end Go.Proofs.Ytmpahimeljbliaa.Opens
