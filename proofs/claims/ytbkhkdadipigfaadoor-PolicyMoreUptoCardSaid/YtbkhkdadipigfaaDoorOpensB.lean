/-
  OF BULK AT MOST B. Whatever can be read as data of a type is of the print's kind for that type: numbers, bools, texts, slices, structs. No condition beyond those that stand in each lemma.
-/
import Derived.Test.YtbkhkdadipigfaaDoorWWords
import Derived.Test.YtbkhkdadipigfaaDoorWMore
import Derived.Deep.Slices
import Derived.Deep.Fields
import Derived.ChangeSame
import Derived.Lib.SmallJoins
import Derived.Test.YtbkhkdadipigfaaDoorRows
namespace Go.Proofs.YtbkhkdadipigfaaDoor.OpensB
open Go.RowKit Go.ChangeShapes Go.WideShapes Go.Deep Go.Proofs.YtbkhkdadipigfaaDoorW.PrintWords

theorem one_le {H : Type} (d : DataW H) : 1 ≤ Rows.uptoBulk d := by
  cases d with
  | lit l => cases l <;> simp [Rows.uptoBulk]
  | nil => simp [Rows.uptoBulk]
  | ptr d => simp [Rows.uptoBulk]
  | slice elems spare => simp [Rows.uptoBulk]
  | agg parts => simp [Rows.uptoBulk]
  | iface t d => simp [Rows.uptoBulk]
  | map entries => simp [Rows.uptoBulk]
  | held h => simp [Rows.uptoBulk]
theorem part_le {H : Type} {d : DataW H} {l : List (DataW H)} (h : d ∈ l) : Rows.uptoBulk d ≤ Rows.uptoBulkAll l := by
  induction l with
  | nil => cases h
  | cons x r ih =>
    simp only [Rows.uptoBulkAll]
    cases List.mem_cons.1 h with
    | inl e => subst e; omega
    | inr e => have := ih e; omega
theorem length_le {H : Type} (l : List (DataW H)) : l.length ≤ Rows.uptoBulkAll l := by
  induction l with
  | nil => simp [Rows.uptoBulkAll]
  | cons x r ih => have := one_le x; simp only [Rows.uptoBulkAll, List.length_cons]; omega

/-- Every reading of type t is a value of kind d that meets Q. -/
def Opens (B : Nat) {α : Type} (P : Program) (d : Kd α) (Q : α → Prop) (t : TypeId) : Prop :=
  P.cellsOf t = d.sz ∧ ∀ (H : Type) (enc : TypeId × Value → H) (w : World) (base : Nat) (spare : Nat → Bool) (held : Bool) (fuel : Nat) (cs : List Value) (x : DataW H × List MemPlace),
    DataW.trod enc P w base spare held fuel t cs = some x → Rows.uptoBulk x.1 ≤ B → ∃ v, d.K w v cs ∧ Q v

theorem opens_int {B : Nat} {P : Program} {t : TypeId} {k : IntKind} (ht : P.underlying t = some (.int k)) (hc : P.cellsOf t = 1) : Opens B P (Kd.int k) (fun n => (Lit.int k n).wf = true) t :=
  ⟨hc, fun _ _ _ _ _ _ _ _ _ h hb => by
    obtain ⟨n, e, _, hw⟩ := DataW.trod_int ht h
    exact ⟨n, e, hw⟩⟩
theorem opens_bool {B : Nat} {P : Program} {t : TypeId} (ht : P.underlying t = some .bool) (hc : P.cellsOf t = 1) : Opens B P Kd.bool (fun _ => True) t :=
  ⟨hc, fun _ _ _ _ _ _ _ _ _ h hb => by
    obtain ⟨b, e, _⟩ := DataW.trod_bool ht h
    exact ⟨b, e, trivial⟩⟩
theorem opens_string {B : Nat} {P : Program} {t : TypeId} (ht : P.underlying t = some .string) (hc : P.cellsOf t = 1) : Opens B P Kd.string (fun s => s.size ≤ B) t :=
  ⟨hc, fun _ _ _ _ _ _ _ _ _ h hb => by
    obtain ⟨s, e, rfl, hs⟩ := DataW.trod_string ht h
    simp only [Rows.uptoBulk, Array.length_toList] at hb
    exact ⟨s, e, by have : s.size = s.data.size := rfl; omega⟩⟩
theorem list_of {α : Type} {p : Nat → α → Prop} : ∀ (n : Nat), (∀ i, i < n → ∃ v, p i v) → ∃ xs : List α, xs.length = n ∧ ∀ j v, xs[j]? = some v → p j v
  | 0, _ => ⟨[], rfl, fun j v h => by simp at h⟩
  | n + 1, h => by
    obtain ⟨xs, hl, hx⟩ := list_of n (fun i hi => h i (by omega))
    obtain ⟨v, hv⟩ := h n (by omega)
    refine ⟨xs ++ [v], by simp [hl], fun j u hj => ?_⟩
    by_cases hjn : j < n
    · rw [List.getElem?_append_left (by omega)] at hj
      exact hx j u hj
    · rw [List.getElem?_append_right (by omega), hl] at hj
      cases hq : j - n with
      | zero =>
        rw [hq] at hj
        simp at hj
        obtain rfl : j = n := by omega
        rw [← hj]
        exact hv
      | succ m => rw [hq] at hj; simp at hj
theorem opens_slice {α : Type} {B : Nat} {P : Program} {d : Kd α} {Q : α → Prop} {t e : TypeId} (ht : P.underlying t = some (.slice e)) (hc : P.cellsOf t = 1) (hd : Opens B P d Q e) : Opens B P (Kd.slice e d) (fun xs => xs.length ≤ B ∧ ∀ x ∈ xs, Q x) t := by
  refine ⟨hc, fun H enc w base spare held fuel cs x h hb => ?_⟩
  obtain ⟨hz, ho⟩ := hd
  rcases open_slice ht h with ⟨e1, _⟩ | ⟨a, len, cap, m, n, D, Pl, e1, _, hl, hm, hmm, rfl, hi⟩
  · exact ⟨[], ⟨none, 0, e1, Nat.le_refl _, Kd.C_nil d w⟩, Nat.zero_le _, fun x hx => by simp at hx⟩
  · have hle : len ≤ m := by rw [hmm]; split <;> omega
    have hml : (maxLen : Nat) = 9223372036854775807 := rfl
    obtain ⟨xs, hxl, hx⟩ := list_of (p := fun i v => (∃ c, c.length = d.sz ∧ d.K w v c ∧ ∀ j u, c[j]? = some u → w.cell? (a.add (i * d.sz + j)) = some u) ∧ Q v) len (fun i hil => by
      obtain ⟨cs', hcs, ht'⟩ := hi i (by omega)
      obtain ⟨v, hk, hq⟩ := ho H enc w base spare held n cs' _ ht' (by
        have hp : Rows.uptoBulk (D i) ≤ Rows.uptoBulkAll ((List.range len).map D) := part_le (List.mem_map_of_mem (List.mem_range.2 hil))
        simp only [Rows.uptoBulk] at hb
        show Rows.uptoBulk (D i) ≤ B
        omega)
      obtain ⟨_, hlen, hat⟩ := World.cells?_some hcs
      rw [hz] at hlen hat
      refine ⟨v, ⟨cs', hlen, hk, fun j u hj => ?_⟩, hq⟩
      have hjl : j < d.sz := by rw [← hlen]; exact (List.getElem?_eq_some_iff.1 hj).1
      have := hat j hjl
      rw [← hj, ← this, Deep.add_add])
    refine ⟨xs, ⟨some a, cap, by rw [hxl]; exact e1, by omega, hxl ▸ ⟨hxl, by omega, fun _ => ⟨a, rfl, fun j p hj => (hx j p hj).1⟩⟩⟩, by
      have hq := length_le ((List.range len).map D)
      simp only [Rows.uptoBulk] at hb
      simp only [List.length_map, List.length_range] at hq
      omega, fun x hxm => ?_⟩
    obtain ⟨j, hj⟩ := List.getElem?_of_mem hxm
    exact (hx j x hj).2

/-- The same of fields in line, from a place on. -/
def OpensF (B : Nat) {α : Type} (P : Program) (d : Kd α) (Q : α → Prop) (fs : List Field) (off : Nat) : Prop :=
  ∀ (H : Type) (enc : TypeId × Value → H) (w : World) (base : Nat) (spare : Nat → Bool) (held : Bool) (fuel : Nat) (cs : List Value),
    (∀ f ∈ fs, ∃ x, DataW.trod enc P w base spare held fuel f.type ((cs.drop f.offset).take (P.cellsOf f.type)) = some x ∧ Rows.uptoBulk x.1 ≤ B) → ∃ v, d.K w v ((cs.drop off).take d.sz) ∧ Q v
theorem opensF_one {α : Type} {B : Nat} {P : Program} {d : Kd α} {Q : α → Prop} {f : Field} {off : Nat} (ho : f.offset = off) (hd : Opens B P d Q f.type) : OpensF B P d Q [f] off := by
  intro H enc w base spare held fuel cs h
  obtain ⟨x, hx, hb⟩ := h f (by simp)
  rw [ho, hd.1] at hx
  exact hd.2 H enc w base spare held fuel _ x hx hb
theorem opensF_cons {α β : Type} {B : Nat} {P : Program} {d : Kd α} {d' : Kd β} {Q : α → Prop} {Q' : β → Prop} {f : Field} {r : List Field} {off off' : Nat} (ho : f.offset = off) (ho' : off + d.sz = off') (hd : Opens B P d Q f.type) (hr : OpensF B P d' Q' r off') :
    OpensF B P (Kd.pair d d') (fun x => Q x.1 ∧ Q' x.2) (f :: r) off := by
  intro H enc w base spare held fuel cs h
  obtain ⟨x, hx, hb⟩ := h f (by simp)
  rw [ho, hd.1] at hx
  obtain ⟨v, hv, hq⟩ := hd.2 H enc w base spare held fuel _ x hx hb
  obtain ⟨v', hv', hq'⟩ := hr H enc w base spare held fuel cs (fun g hg => h g (by simp [hg]))
  refine ⟨(v, v'), ⟨_, _, ?_, hv, hv'⟩, hq, hq'⟩
  show (cs.drop off).take (d.sz + d'.sz) = _
  rw [List.take_add, List.drop_drop, ho']
theorem opens_struct {α β : Type} {B : Nat} {P : Program} {d : Kd α} {f : β → α} {g : α → β} {Q : α → Prop} {t : TypeId} {fs : Array Field} (ht : P.underlying t = some (.struct fs)) (hc : P.cellsOf t = d.sz) (hfg : ∀ x, f (g x) = x) (hd : OpensF B P d Q fs.toList 0) :
    Opens B P (Kd.iso d f) (fun x => Q (f x)) t := by
  refine ⟨hc, fun H enc w base spare held fuel cs x h hb => ?_⟩
  obtain ⟨xs, n, _, rfl, hl, hxl, hf⟩ := DataW.trod_struct ht h
  obtain ⟨v, hv, hq⟩ := hd H enc w base spare held n cs (fun fl hfl => by
    obtain ⟨i, hi⟩ := List.getElem?_of_mem hfl
    have hi' : fs[i]? = some fl := by simpa using hi
    have hlt : i < xs.length := by rw [hxl]; exact (Array.getElem?_eq_some_iff.1 hi').1
    exact ⟨xs[i], (hf i fl hi').trans (List.getElem?_eq_getElem hlt), by
      have hp : Rows.uptoBulk (xs[i]).1 ≤ Rows.uptoBulkAll (xs.map (·.1)) := part_le (List.mem_map_of_mem (List.getElem_mem hlt))
      simp only [Rows.uptoBulk] at hb
      omega⟩)
  rw [List.drop_zero, List.take_of_length_le (by omega)] at hv
  exact ⟨g v, by show d.K w (f (g v)) cs; rw [hfg]; exact hv, by show Q (f (g v)); rw [hfg]; exact hq⟩

/-- An argument that came in is of its kind. -/
theorem opens_arg {α : Type} {B : Nat} {P : Program} {d : Kd α} {Q : α → Prop} {t : TypeId} (hd : Opens B P d Q t) {H : Type} {enc : TypeId × Value → H} {w : World} {base : Nat} {spare : Nat → Bool} {held : Bool} {v : Value} {x : DataW H} {p : List MemPlace}
    (h : DataW.Trod enc P w base spare held t v x p) (hb : Rows.uptoBulk x ≤ B) : ∃ y, d.K w y v.cells.toList ∧ Q y := by
  obtain ⟨fuel, hf⟩ := h
  exact hd.2 H enc w base spare held fuel v.cells.toList _ hf hb

end Go.Proofs.YtbkhkdadipigfaaDoor.OpensB
