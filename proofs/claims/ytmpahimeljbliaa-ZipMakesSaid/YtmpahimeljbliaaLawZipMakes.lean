/-
  Whatever can be read as data of a type is of the print's kind for that type: numbers, bools, texts, slices, structs. No condition beyond those that stand in each lemma.
-/
import Derived.Test.YtmpahimeljbliaaWWords
import Derived.Test.YtmpahimeljbliaaWMore
import Derived.Deep.Slices
import Derived.Deep.Fields
import Derived.ChangeSame
import Derived.Lib.SmallJoins
import Derived.Test.YtmpahimeljbliaaPx0
import Derived.SizedLaws
import Derived.Test.YtmpahimeljbliaaPx4
import Derived.Test.YtmpahimeljbliaaZipPureA
import Derived.Test.YtmpahimeljbliaaRows
import Derived.WalkKit
import Derived.ProofKit
import Derived.OpenShut
import Derived.ShutString
import Derived.ChangeOld
import Derived.Below
import Derived.HandedShaped
import Derived.Test.YtmpahimeljbliaaWSized
namespace Go.Proofs.Ytmpahimeljbliaa.Opens
open Go.RowKit Go.ChangeShapes Go.WideShapes Go.Deep Go.Proofs.YtmpahimeljbliaaW.PrintWords

/-- Every reading of type t is a value of kind d that meets Q. -/
def Opens {α : Type} (P : Program) (d : Kd α) (Q : α → Prop) (t : TypeId) : Prop :=
  P.cellsOf t = d.sz ∧ ∀ (H : Type) (enc : TypeId × Value → H) (w : World) (base : Nat) (spare : Nat → Bool) (held : Bool) (fuel : Nat) (cs : List Value) (x : DataW H × List MemPlace),
    DataW.trod enc P w base spare held fuel t cs = some x → ∃ v, d.K w v cs ∧ Q v

theorem opens_int {P : Program} {t : TypeId} {k : IntKind} (ht : P.underlying t = some (.int k)) (hc : P.cellsOf t = 1) : Opens P (Kd.int k) (fun n => (Lit.int k n).wf = true) t :=
  ⟨hc, fun _ _ _ _ _ _ _ _ _ h => by
    obtain ⟨n, e, _, hw⟩ := DataW.trod_int ht h
    exact ⟨n, e, hw⟩⟩
theorem opens_bool {P : Program} {t : TypeId} (ht : P.underlying t = some .bool) (hc : P.cellsOf t = 1) : Opens P Kd.bool (fun _ => True) t :=
  ⟨hc, fun _ _ _ _ _ _ _ _ _ h => by
    obtain ⟨b, e, _⟩ := DataW.trod_bool ht h
    exact ⟨b, e, trivial⟩⟩
theorem opens_string {P : Program} {t : TypeId} (ht : P.underlying t = some .string) (hc : P.cellsOf t = 1) : Opens P Kd.string (fun s => s.size ≤ maxLen) t :=
  ⟨hc, fun _ _ _ _ _ _ _ _ _ h => by
    obtain ⟨s, e, _, hs⟩ := DataW.trod_string ht h
    exact ⟨s, e, hs⟩⟩
theorem list_of {α : Type} {p : Nat → α → Prop} : ∀ (n : Nat), (∀ i, i < n → ∃ v, p i v) → ∃ xs : List α, xs.length = n ∧ ∀ j v, xs[j]? = some v → p j v
  | 0, _ => ⟨[], rfl, fun j v h => by simp at h⟩
  | n + 1, h => by
    obtain ⟨xs, hl, hx⟩ := list_of n (fun i hi => h i (by omega))
    obtain ⟨v, hv⟩ := h n (by omega)
    refine ⟨xs ++ [v], by simp [hl], fun j u hj => ?_⟩
    by_cases hjn : j < n
    · rw [List.getElem?_append_left (by omega)] at hj
      exact hx j u hj
    · rw [List.getElem?_append_right (by omega), hl] at hj
      cases hq : j - n with
      | zero =>
        rw [hq] at hj
        simp at hj
        obtain rfl : j = n := by omega
        rw [← hj]
        exact hv
      | succ m => rw [hq] at hj; simp at hj
theorem opens_slice {α : Type} {P : Program} {d : Kd α} {Q : α → Prop} {t e : TypeId} (ht : P.underlying t = some (.slice e)) (hc : P.cellsOf t = 1) (hd : Opens P d Q e) : Opens P (Kd.slice e d) (fun xs => ∀ x ∈ xs, Q x) t := by
  refine ⟨hc, fun H enc w base spare held fuel cs x h => ?_⟩
  obtain ⟨hz, ho⟩ := hd
  rcases open_slice ht h with ⟨e1, _⟩ | ⟨a, len, cap, m, n, D, Pl, e1, _, hl, hm, hmm, _, hi⟩
  · exact ⟨[], ⟨none, 0, e1, Nat.le_refl _, Kd.C_nil d w⟩, fun x hx => by simp at hx⟩
  · have hle : len ≤ m := by rw [hmm]; split <;> omega
    have hml : (maxLen : Nat) = 9223372036854775807 := rfl
    obtain ⟨xs, hxl, hx⟩ := list_of (p := fun i v => (∃ c, c.length = d.sz ∧ d.K w v c ∧ ∀ j u, c[j]? = some u → w.cell? (a.add (i * d.sz + j)) = some u) ∧ Q v) len (fun i hil => by
      obtain ⟨cs', hcs, ht'⟩ := hi i (by omega)
      obtain ⟨v, hk, hq⟩ := ho H enc w base spare held n cs' _ ht'
      obtain ⟨_, hlen, hat⟩ := World.cells?_some hcs
      rw [hz] at hlen hat
      refine ⟨v, ⟨cs', hlen, hk, fun j u hj => ?_⟩, hq⟩
      have hjl : j < d.sz := by rw [← hlen]; exact (List.getElem?_eq_some_iff.1 hj).1
      have := hat j hjl
      rw [← hj, ← this, Deep.add_add])
    refine ⟨xs, ⟨some a, cap, by rw [hxl]; exact e1, by omega, hxl ▸ ⟨hxl, by omega, fun _ => ⟨a, rfl, fun j p hj => (hx j p hj).1⟩⟩⟩, fun x hxm => ?_⟩
    obtain ⟨j, hj⟩ := List.getElem?_of_mem hxm
    exact (hx j x hj).2

/-- The same of fields in line, from a place on. -/
def OpensF {α : Type} (P : Program) (d : Kd α) (Q : α → Prop) (fs : List Field) (off : Nat) : Prop :=
  ∀ (H : Type) (enc : TypeId × Value → H) (w : World) (base : Nat) (spare : Nat → Bool) (held : Bool) (fuel : Nat) (cs : List Value),
    (∀ f ∈ fs, ∃ x, DataW.trod enc P w base spare held fuel f.type ((cs.drop f.offset).take (P.cellsOf f.type)) = some x) → ∃ v, d.K w v ((cs.drop off).take d.sz) ∧ Q v
theorem opensF_one {α : Type} {P : Program} {d : Kd α} {Q : α → Prop} {f : Field} {off : Nat} (ho : f.offset = off) (hd : Opens P d Q f.type) : OpensF P d Q [f] off := by
  intro H enc w base spare held fuel cs h
  obtain ⟨x, hx⟩ := h f (by simp)
  rw [ho, hd.1] at hx
  exact hd.2 H enc w base spare held fuel _ x hx
theorem opensF_cons {α β : Type} {P : Program} {d : Kd α} {d' : Kd β} {Q : α → Prop} {Q' : β → Prop} {f : Field} {r : List Field} {off off' : Nat} (ho : f.offset = off) (ho' : off + d.sz = off') (hd : Opens P d Q f.type) (hr : OpensF P d' Q' r off') :
    OpensF P (Kd.pair d d') (fun x => Q x.1 ∧ Q' x.2) (f :: r) off := by
  intro H enc w base spare held fuel cs h
  obtain ⟨x, hx⟩ := h f (by simp)
  rw [ho, hd.1] at hx
  obtain ⟨v, hv, hq⟩ := hd.2 H enc w base spare held fuel _ x hx
  obtain ⟨v', hv', hq'⟩ := hr H enc w base spare held fuel cs (fun g hg => h g (by simp [hg]))
  refine ⟨(v, v'), ⟨_, _, ?_, hv, hv'⟩, hq, hq'⟩
  show (cs.drop off).take (d.sz + d'.sz) = _
  rw [List.take_add, List.drop_drop, ho']
theorem opens_struct {α β : Type} {P : Program} {d : Kd α} {f : β → α} {g : α → β} {Q : α → Prop} {t : TypeId} {fs : Array Field} (ht : P.underlying t = some (.struct fs)) (hc : P.cellsOf t = d.sz) (hfg : ∀ x, f (g x) = x) (hd : OpensF P d Q fs.toList 0) :
    Opens P (Kd.iso d f) (fun x => Q (f x)) t := by
  refine ⟨hc, fun H enc w base spare held fuel cs x h => ?_⟩
  obtain ⟨xs, n, _, _, hl, hxl, hf⟩ := DataW.trod_struct ht h
  obtain ⟨v, hv, hq⟩ := hd H enc w base spare held n cs (fun fl hfl => by
    obtain ⟨i, hi⟩ := List.getElem?_of_mem hfl
    have hi' : fs[i]? = some fl := by simpa using hi
    have hlt : i < xs.length := by rw [hxl]; exact (Array.getElem?_eq_some_iff.1 hi').1
    exact ⟨xs[i], (hf i fl hi').trans (List.getElem?_eq_getElem hlt)⟩)
  rw [List.drop_zero, List.take_of_length_le (by omega)] at hv
  exact ⟨g v, by show d.K w (f (g v)) cs; rw [hfg]; exact hv, by show Q (f (g v)); rw [hfg]; exact hq⟩

/-- An argument that came in is of its kind. -/
theorem opens_arg {α : Type} {P : Program} {d : Kd α} {Q : α → Prop} {t : TypeId} (hd : Opens P d Q t) {H : Type} {enc : TypeId × Value → H} {w : World} {base : Nat} {spare : Nat → Bool} {held : Bool} {v : Value} {x : DataW H} {p : List MemPlace}
    (h : DataW.Trod enc P w base spare held t v x p) : ∃ y, d.K w y v.cells.toList ∧ Q y := by
  obtain ⟨fuel, hf⟩ := h
  exact hd.2 H enc w base spare held fuel v.cells.toList _ hf

end Go.Proofs.Ytmpahimeljbliaa.Opens
namespace Go.Proofs.Ytmpahimeljbliaa.ZipOpens
open Go.RowKit Go.Proofs Go.ChangeShapes Go.WideShapes Go.Deep Go.Proofs.YtmpahimeljbliaaW.PrintWords Go.Proofs.Ytmpahimeljbliaa.P Go.Proofs.Ytmpahimeljbliaa.Opens

theorem o5 : Opens Try.prog (Kd.int .u8) (fun n => (Lit.int .u8 n).wf = true) 5 := opens_int Try.underlying5 (by kernel_rfl)
theorem o9 : Opens Try.prog Kd.string (fun s => s.size ≤ maxLen) 9 := opens_string Try.underlying9 (by kernel_rfl)
theorem o22 : Opens Try.prog (Kd.slice 5 (Kd.int .u8)) (fun xs => ∀ x ∈ xs, (Lit.int .u8 x).wf = true) 22 := opens_slice Try.underlying22 (by kernel_rfl) o5
theorem o50 : Opens Try.prog k50 (fun x => x.f0.size ≤ maxLen ∧ ∀ n ∈ x.f1, (Lit.int .u8 n).wf = true) 50 :=
  opens_struct (β := S50) (f := fun x => (x.f0, x.f1)) (g := fun x => ⟨x.1, x.2⟩) Try.underlying50 (by kernel_rfl) (fun _ => rfl) (opensF_cons rfl rfl o9 (opensF_one rfl o22))
theorem o41 : Opens Try.prog (Kd.slice 50 k50) (fun xs => ∀ x ∈ xs, x.f0.size ≤ maxLen ∧ ∀ n ∈ x.f1, (Lit.int .u8 n).wf = true) 41 := opens_slice Try.underlying41 (by kernel_rfl) o50

set_option maxRecDepth 100000 in
theorem open_files {H : Type} {enc : TypeId × Value → H} {W : World} {r : Reach} {b0 base : Nat} {spare : Nat → Bool} {held : Bool} {v : Value} {d : DataW H} {p : List MemPlace} {ts : List TypeId} {ds : List (DataW H)} {j : Nat}
    (hsz : (DataW.weightsEach Try.prog ts ds).all (· ≤ reachBytes) = true) (htj : ts[j]? = some 41) (hdj : ds[j]? = some d)
    (hv : Value.okWide Try.prog W r b0 41 v) (h : DataW.Trod enc Try.prog W base spare held 41 v d p) :
    ∃ (A : Option Addr) (c : Nat) (l : List S50), v = .slice A l.length c ∧ l.length ≤ c ∧ k50.C W A l.length l ∧ l.length ≤ 140737488355328 ∧ ∀ x ∈ l, x.f0.size ≤ maxLen ∧ ∀ n ∈ x.f1, (Lit.int .u8 n).wf = true := by
  obtain ⟨a0, len0, cap0, rfl⟩ := okWide_slice Try.underlying41 hv
  have hx := opens_arg o41 h
  obtain ⟨l, hx, hq⟩ := hx
  obtain ⟨A, c, e1, hc, hC⟩ := hx
  simp [Value.cells] at e1
  obtain ⟨rfl, rfl, rfl⟩ := e1
  refine ⟨_, _, l, rfl, hc, hC, ?_, hq⟩
  obtain ⟨fuel, hf⟩ := h
  rcases open_slice Try.underlying41 hf with ⟨e1, _⟩ | ⟨a, len, cap, m, n, D, Pl, e1, _, hl, hm, hmm, e2, hi⟩
  · simp [Value.cells] at e1
    omega
  · simp [Value.cells] at e1
    obtain ⟨rfl, rfl, rfl⟩ := e1
    obtain ⟨rfl, -⟩ := Prod.mk.inj e2
    have := sized_slice hsz htj hdj Try.underlying41
    rw [List.length_map, List.length_range, show Try.prog.bytesOf 50 = 40 from by kernel_rfl] at this
    have hr : reachBytes = 140737488351232 := rfl
    omega
end Go.Proofs.Ytmpahimeljbliaa.ZipOpens
namespace Go.Proofs.Ytmpahimeljbliaa.ZipGreat
open Go.RowKit Go.Proofs Go.Proofs.Ytmpahimeljbliaa.P Go.Proofs.YtmpahimeljbliaaW.PrintWords Go.Proofs.YtmpahimeljbliaaW.PrintLast

/-- What is known of the files when not so much is asked. -/
def Small (l : List S50) (j : Nat) : Prop := l.length ≤ 300 ∧ ∀ x ∈ l.drop j, x.f1.length ≤ 524288 ∧ x.f0.size ≤ 1000
theorem rd_at (l : List S50) (j : Nat) (hj : j < l.length) : rd_T50 l (j : Int) = l[j] := by
  unfold rd_T50
  rw [Int.toNat_natCast, List.getD_eq_getElem?_getD, List.getElem?_eq_getElem hj]
  rfl
theorem great_l0 (l : List S50) (hlen : l.length ≤ 140737488355328) : ∀ (d j k : Nat) (s : Int), j + d = l.length → 3 * d + 6 < k → 0 ≤ s → s ≤ 1048576 → ∃ b, messuagelaw07_great.l0 k l s j = some b ∧ (b = false → Small l j)
  | 0, j, k, s, hj, hk, h0, h1 => by
    obtain ⟨k, rfl⟩ : ∃ m, k = m + 1 + 1 := ⟨k - 2, by omega⟩
    rw [messuagelaw07_great.l0, if_neg (by omega), messuagelaw07_great.j1, if_neg (by decide)]
    refine ⟨_, rfl, fun hb => ⟨?_, ?_⟩⟩
    · have := of_decide_eq_false hb
      omega
    · rw [List.drop_of_length_le (by omega)]
      intro x hx
      cases hx
  | d + 1, j, k, s, hj, hk, h0, h1 => by
    obtain ⟨k, rfl⟩ : ∃ m, k = m + 1 + 1 + 1 := ⟨k - 3, by omega⟩
    have c1 : (j : Int) < (l.length : Int) := by omega
    have c0 : (0 : Int) ≤ (j : Int) := by omega
    have hjl : j < l.length := by omega
    have hx := rd_at l j hjl
    rw [messuagelaw07_great.l0, if_pos c1, messuagelaw07_great.j1, hx]
    by_cases h3 : (j : Int) < 300
    · rw [if_pos (decide_eq_true h3), if_pos c0, if_pos c1]
      by_cases h5 : (l[j].f1.length : Int) > 524288
      · rw [if_pos h5, messuagelaw07_great.j2, if_pos rfl]
        exact ⟨_, rfl, fun h => by cases h⟩
      · rw [if_neg h5, messuagelaw07_great.j2, hx]
        by_cases h6 : (l[j].f0.size : Int) > 1000
        · rw [if_pos (decide_eq_true h6)]
          exact ⟨_, rfl, fun h => by cases h⟩
        · rw [if_neg (by simpa using h6), if_pos c0, if_pos c1]
          have ih := fun s h0 h1 => great_l0 l hlen d (j + 1) k s (by omega) (by omega) h0 h1
          have hb : 0 ≤ s + (l[j].f1.length : Int) ∧ s + (l[j].f1.length : Int) ≤ 2000000 := by omega
          have e1 : wrap64 (s + (l[j].f1.length : Int)) = s + (l[j].f1.length : Int) := ZipNumP.w64i _ (by omega) (by omega)
          have e2 : wrap64 ((j : Int) + 1) = ((j + 1 : Nat) : Int) := by rw [ZipNumP.w64i _ (by omega) (by omega)]; omega
          rw [e1, e2]
          by_cases h7 : s + (l[j].f1.length : Int) > 1048576
          · rw [if_pos h7]
            exact ⟨_, rfl, fun h => by cases h⟩
          · rw [if_neg h7]
            obtain ⟨b, hb1, hb2⟩ := ih _ hb.1 (Int.not_lt.1 h7)
            refine ⟨b, hb1, fun hf => ⟨(hb2 hf).1, ?_⟩⟩
            rw [List.drop_eq_getElem_cons hjl]
            intro x hxm
            rcases List.mem_cons.1 hxm with rfl | hxm
            · clear e1 e2; omega
            · exact (hb2 hf).2 x hxm
    · rw [if_neg (by simpa using h3)]
      have : decide ((l.length : Int) > 300) = true := decide_eq_true (by omega)
      rw [this]
      exact ⟨_, rfl, fun h => by cases h⟩
theorem great_f (l : List S50) (hlen : l.length ≤ 140737488355328) (k : Nat) (hk : 3 * l.length + 6 < k) : ∃ b, messuagelaw07_great.f k l = some b ∧ (b = false → l.length ≤ 300 ∧ ∀ x ∈ l, x.f1.length ≤ 524288 ∧ x.f0.size ≤ 1000) := by
  obtain ⟨b, h1, h2⟩ := great_l0 l hlen l.length 0 k 0 (by omega) hk (by omega) (by omega)
  exact ⟨b, h1, fun h => h2 h⟩
end Go.Proofs.Ytmpahimeljbliaa.ZipGreat
namespace Go.Proofs.Ytmpahimeljbliaa.Pure
open Go.RowKit Go.Proofs.Ytmpahimeljbliaa.P Go.Proofs.YtmpahimeljbliaaW.PrintWords Go.Proofs.YtmpahimeljbliaaW.PrintLast
open ZipPureA ZipNumP

theorem files_l0 (l : List S50) (hlen : l.length ≤ 300) : ∀ (d j k : Nat) (p : List S108), j + d = l.length → p.length = j → d < k → messuagelaw07_files.l0 k l p j = some (p ++ (l.drop j).map fun x => (⟨x.f0, x.f1⟩ : S108))
  | 0, j, k, p, hj, hp, hk => by
    obtain ⟨k, rfl⟩ : ∃ m, k = m + 1 := ⟨k - 1, by omega⟩
    rw [messuagelaw07_files.l0, if_neg (by omega), List.drop_of_length_le (by omega), List.map_nil, List.append_nil]
  | d + 1, j, k, p, hj, hp, hk => by
    obtain ⟨k, rfl⟩ : ∃ m, k = m + 1 := ⟨k - 1, by omega⟩
    have hjl : j < l.length := by omega
    have c1 : (j : Int) < (l.length : Int) := by omega
    have c0 : (0 : Int) ≤ (j : Int) := by omega
    have e2 : wrap64 ((j : Int) + 1) = ((j + 1 : Nat) : Int) := by rw [w64i _ (by omega) (by omega)]; omega
    have ih := files_l0 l hlen d (j + 1) k (p ++ [(⟨l[j].f0, l[j].f1⟩ : S108)]) (by omega) (by simp [hp]) (by omega)
    rw [messuagelaw07_files.l0, if_pos c1, if_pos c0, if_pos (by omega), ZipGreat.rd_at l j hjl, e2, ih, List.drop_eq_getElem_cons hjl, List.map_cons, List.append_assoc]
    rfl
theorem ZipMakes (l : List S50) (hlen : l.length ≤ 140737488355328) : ∃ k, messuagelaw07_ZipMakes.f k l = some true := by
  refine ⟨3 * l.length + 7, ?_⟩
  obtain ⟨b, hg, hs⟩ := ZipGreat.great_f l hlen (3 * l.length + 7) (by omega)
  unfold messuagelaw07_ZipMakes.f
  rw [hg, Option.bind_some]
  cases b with
  | true => rw [if_pos rfl]
  | false =>
    obtain ⟨h3, -⟩ := hs rfl
    have hf : messuagelaw07_files.f (3 * l.length + 7) l = some (l.map fun x => (⟨x.f0, x.f1⟩ : S108)) := by
      have := files_l0 l h3 l.length 0 (3 * l.length + 7) [] (by omega) rfl (by omega)
      rw [List.drop_zero, List.nil_append] at this
      exact this
    rw [if_neg (by decide), zip_Make.f, if_pos hlen, Option.bind_some, hf, Option.bind_some, messuageref07_Make.f, if_pos (by simpa using hlen), Option.bind_some, show (l.map fun x => (⟨x.f0, x.f1⟩ : S108)).map (fun x => (bytesOf x.f0, x.f1)) = l.map fun x => (bytesOf x.f0, x.f1) from by rw [List.map_map]; rfl]
    rw [if_pos rfl, if_pos rfl]
    rfl
end Go.Proofs.Ytmpahimeljbliaa.Pure
namespace Go.Proofs.Ytmpahimeljbliaa.zipMakes
open Go.ChangeShapes Go.WideShapes Go.ChangeAt Go.RowKit
open Go.ChangeMaps (open_string shut_string)
set_option linter.unusedVariables false
theorem own : ownKnob Try.prog.godebug = none := by kernel_rfl
theorem laidOut : laidOutB Try.prog = true := by kernel_rfl
set_option maxRecDepth 100000 in
theorem lifted (os : Os) (started : os.Started) (H : Type) (enc : TypeId × Value → H) :
    ReturnsInHanded {} Try.checked os 5 .any (Rows.zipMakesSpec.pre6 enc Try.prog Try.f5 Rows.zipMakesRow.domain false) (Rows.zipMakesSpec.post enc Try.prog Try.f5 false true false false) := by
  refine returnsInHanded_of_change_sized (C := Try.checked) own started (by kernel_rfl) Try.func5
    (ChangeSpec.witness6 (enc := enc) (C := Try.checked) false ⟨#[], #[.slice none 0 0], []⟩ 8 (by kernel_rfl) (by kernel_rfl) (by kernel_rfl) (by kernel_rfl)) ?_
  intro W base args ds gs before hval0 hW hcnd hsz0 _
  have hsz : (DataW.weightsEach Try.prog (Try.f5.params.toList ++ Rows.zipMakesSpec.plain.varTypes Try.prog) (ds ++ gs)).all (· ≤ reachBytes) = true := hsz0
  have hval : ∀ (j : Nat) t v, Try.f5.params[j]? = some t → args[j]? = some v → Value.okWide Try.prog W .any base t v := hval0
  have hW' := hW
  obtain ⟨p, q, hA0, hV, rfl, hfz, hnd⟩ := hW
  have hA : DataW.TrodAll enc Try.prog W 0 (fun _ => true) true Try.f5.params.toList args.toList ds p := hA0
  rw [Try.params5] at hA hval hsz
  obtain ⟨v0, vs0, d0, ds0, p0, q0, hargs, rfl, rfl, h0, r0⟩ := trodAll_cons hA
  obtain ⟨rfl, rfl, rfl⟩ := trodAll_nil r0
  obtain rfl : args = #[v0] := by cases args; simp_all
  obtain ⟨rfl, rfl⟩ := trodVars_none hV
  have k0 := h0
  have lt0 : ∀ x ∈ p0, x.block < W.heap.size := by obtain ⟨m, hm⟩ := k0; exact DataW.trod_lt m _ _ _ hm
  obtain ⟨a0, c0, l0, rfl, hc0, hr0, hl0, -⟩ := ZipOpens.open_files hsz (j := 0) rfl rfl (hval 0 41 v0 rfl rfl) h0
  clear hA0 hval0 hsz0 hsz
  obtain ⟨k, hk⟩ := Pure.ZipMakes l0 hl0
  refine (P.messuagelaw07_ZipMakes.calls k a0 c0 l0 true W hr0 hc0 hk).mono fun e W' ⟨he, bel⟩ => ?_
  subst he
  exact ⟨_, rfl, _, _, _, [], _, [], hW', trodAll_mk1 (shut_bool Try.underlying4 _), (trodAll_cons_mk (Below.trod laidOut (by kernel_rfl) (of_decide_eq_true (by kernel_rfl)) k0 bel lt0) trodAll_mk0), rfl, bel.frame _, fun h => by cases h⟩
theorem over : Rows.zipMakesRow.holds Try.pinned (OpenSpec.ofChange Rows.zipMakesSpec) :=
  OpenClaim.holds_of_wide 5 Try.f5 rfl rfl rfl rfl rfl rfl rfl ⟨rfl, rfl, rfl, rfl, rfl⟩ rfl rfl rfl rfl rfl (by kernel_rfl) Try.func5 (by kernel_rfl)
    (of_decide_eq_true (by kernel_rfl)) (by unfold Func.isWrapper; first | (rw [if_pos (by decide +kernel)]; kernel_rfl) | (rw [if_neg (by decide +kernel)]; exact ⟨rfl, rfl⟩))
    (fun os started H enc _ => lifted os started H enc)
theorem proved : Rows.ZipMakesSaid := over
#print axioms proved
end Go.Proofs.Ytmpahimeljbliaa.zipMakes
namespace Go.Proofs.Ytmpahimeljbliaa
/-- The row, under a short name, for the claim. -/
theorem zipMakes_holds : Rows.ZipMakesSaid := zipMakes.proved
end Go.Proofs.Ytmpahimeljbliaa
