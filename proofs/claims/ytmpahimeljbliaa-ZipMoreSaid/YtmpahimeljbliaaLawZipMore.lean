/-
  Whatever can be read as data of a type is of the print's kind for that type: numbers, bools, texts, slices, structs. No condition beyond those that stand in each lemma.
-/
import Derived.Test.YtmpahimeljbliaaWWords
import Derived.Test.YtmpahimeljbliaaWMore
import Derived.Deep.Slices
import Derived.Deep.Fields
import Derived.ChangeSame
import Derived.Lib.SmallJoins
import Derived.Test.YtmpahimeljbliaaPx0
import Derived.SizedLaws
import Derived.Test.YtmpahimeljbliaaPx4
import Derived.Test.YtmpahimeljbliaaZipPureA
import Derived.Laws.AppendOwnNone
import Derived.Outline
import Derived.Test.YtmpahimeljbliaaRows
import Derived.WalkKit
import Derived.ProofKit
import Derived.OpenShut
import Derived.ShutString
import Derived.ChangeOld
import Derived.Below
import Derived.HandedShaped
import Derived.Test.YtmpahimeljbliaaWSized
namespace Go.Proofs.Ytmpahimeljbliaa.Opens
open Go.RowKit Go.ChangeShapes Go.WideShapes Go.Deep Go.Proofs.YtmpahimeljbliaaW.PrintWords

/-- Every reading of type t is a value of kind d that meets Q. -/
def Opens {α : Type} (P : Program) (d : Kd α) (Q : α → Prop) (t : TypeId) : Prop :=
  P.cellsOf t = d.sz ∧ ∀ (H : Type) (enc : TypeId × Value → H) (w : World) (base : Nat) (spare : Nat → Bool) (held : Bool) (fuel : Nat) (cs : List Value) (x : DataW H × List MemPlace),
    DataW.trod enc P w base spare held fuel t cs = some x → ∃ v, d.K w v cs ∧ Q v

theorem opens_int {P : Program} {t : TypeId} {k : IntKind} (ht : P.underlying t = some (.int k)) (hc : P.cellsOf t = 1) : Opens P (Kd.int k) (fun n => (Lit.int k n).wf = true) t :=
  ⟨hc, fun _ _ _ _ _ _ _ _ _ h => by
    obtain ⟨n, e, _, hw⟩ := DataW.trod_int ht h
    exact ⟨n, e, hw⟩⟩
theorem opens_bool {P : Program} {t : TypeId} (ht : P.underlying t = some .bool) (hc : P.cellsOf t = 1) : Opens P Kd.bool (fun _ => True) t :=
  ⟨hc, fun _ _ _ _ _ _ _ _ _ h => by
    obtain ⟨b, e, _⟩ := DataW.trod_bool ht h
    exact ⟨b, e, trivial⟩⟩
theorem opens_string {P : Program} {t : TypeId} (ht : P.underlying t = some .string) (hc : P.cellsOf t = 1) : Opens P Kd.string (fun s => s.size ≤ maxLen) t :=
  ⟨hc, fun _ _ _ _ _ _ _ _ _ h => by
    obtain ⟨s, e, _, hs⟩ := DataW.trod_string ht h
    exact ⟨s, e, hs⟩⟩
theorem list_of {α : Type} {p : Nat → α → Prop} : ∀ (n : Nat), (∀ i, i < n → ∃ v, p i v) → ∃ xs : List α, xs.length = n ∧ ∀ j v, xs[j]? = some v → p j v
  | 0, _ => ⟨[], rfl, fun j v h => by simp at h⟩
  | n + 1, h => by
    obtain ⟨xs, hl, hx⟩ := list_of n (fun i hi => h i (by omega))
    obtain ⟨v, hv⟩ := h n (by omega)
    refine ⟨xs ++ [v], by simp [hl], fun j u hj => ?_⟩
    by_cases hjn : j < n
    · rw [List.getElem?_append_left (by omega)] at hj
      exact hx j u hj
    · rw [List.getElem?_append_right (by omega), hl] at hj
      cases hq : j - n with
      | zero =>
        rw [hq] at hj
        simp at hj
        obtain rfl : j = n := by omega
        rw [← hj]
        exact hv
      | succ m => rw [hq] at hj; simp at hj
theorem opens_slice {α : Type} {P : Program} {d : Kd α} {Q : α → Prop} {t e : TypeId} (ht : P.underlying t = some (.slice e)) (hc : P.cellsOf t = 1) (hd : Opens P d Q e) : Opens P (Kd.slice e d) (fun xs => ∀ x ∈ xs, Q x) t := by
  refine ⟨hc, fun H enc w base spare held fuel cs x h => ?_⟩
  obtain ⟨hz, ho⟩ := hd
  rcases open_slice ht h with ⟨e1, _⟩ | ⟨a, len, cap, m, n, D, Pl, e1, _, hl, hm, hmm, _, hi⟩
  · exact ⟨[], ⟨none, 0, e1, Nat.le_refl _, Kd.C_nil d w⟩, fun x hx => by simp at hx⟩
  · have hle : len ≤ m := by rw [hmm]; split <;> omega
    have hml : (maxLen : Nat) = 9223372036854775807 := rfl
    obtain ⟨xs, hxl, hx⟩ := list_of (p := fun i v => (∃ c, c.length = d.sz ∧ d.K w v c ∧ ∀ j u, c[j]? = some u → w.cell? (a.add (i * d.sz + j)) = some u) ∧ Q v) len (fun i hil => by
      obtain ⟨cs', hcs, ht'⟩ := hi i (by omega)
      obtain ⟨v, hk, hq⟩ := ho H enc w base spare held n cs' _ ht'
      obtain ⟨_, hlen, hat⟩ := World.cells?_some hcs
      rw [hz] at hlen hat
      refine ⟨v, ⟨cs', hlen, hk, fun j u hj => ?_⟩, hq⟩
      have hjl : j < d.sz := by rw [← hlen]; exact (List.getElem?_eq_some_iff.1 hj).1
      have := hat j hjl
      rw [← hj, ← this, Deep.add_add])
    refine ⟨xs, ⟨some a, cap, by rw [hxl]; exact e1, by omega, hxl ▸ ⟨hxl, by omega, fun _ => ⟨a, rfl, fun j p hj => (hx j p hj).1⟩⟩⟩, fun x hxm => ?_⟩
    obtain ⟨j, hj⟩ := List.getElem?_of_mem hxm
    exact (hx j x hj).2

/-- The same of fields in line, from a place on. -/
def OpensF {α : Type} (P : Program) (d : Kd α) (Q : α → Prop) (fs : List Field) (off : Nat) : Prop :=
  ∀ (H : Type) (enc : TypeId × Value → H) (w : World) (base : Nat) (spare : Nat → Bool) (held : Bool) (fuel : Nat) (cs : List Value),
    (∀ f ∈ fs, ∃ x, DataW.trod enc P w base spare held fuel f.type ((cs.drop f.offset).take (P.cellsOf f.type)) = some x) → ∃ v, d.K w v ((cs.drop off).take d.sz) ∧ Q v
theorem opensF_one {α : Type} {P : Program} {d : Kd α} {Q : α → Prop} {f : Field} {off : Nat} (ho : f.offset = off) (hd : Opens P d Q f.type) : OpensF P d Q [f] off := by
  intro H enc w base spare held fuel cs h
  obtain ⟨x, hx⟩ := h f (by simp)
  rw [ho, hd.1] at hx
  exact hd.2 H enc w base spare held fuel _ x hx
theorem opensF_cons {α β : Type} {P : Program} {d : Kd α} {d' : Kd β} {Q : α → Prop} {Q' : β → Prop} {f : Field} {r : List Field} {off off' : Nat} (ho : f.offset = off) (ho' : off + d.sz = off') (hd : Opens P d Q f.type) (hr : OpensF P d' Q' r off') :
    OpensF P (Kd.pair d d') (fun x => Q x.1 ∧ Q' x.2) (f :: r) off := by
  intro H enc w base spare held fuel cs h
  obtain ⟨x, hx⟩ := h f (by simp)
  rw [ho, hd.1] at hx
  obtain ⟨v, hv, hq⟩ := hd.2 H enc w base spare held fuel _ x hx
  obtain ⟨v', hv', hq'⟩ := hr H enc w base spare held fuel cs (fun g hg => h g (by simp [hg]))
  refine ⟨(v, v'), ⟨_, _, ?_, hv, hv'⟩, hq, hq'⟩
  show (cs.drop off).take (d.sz + d'.sz) = _
  rw [List.take_add, List.drop_drop, ho']
theorem opens_struct {α β : Type} {P : Program} {d : Kd α} {f : β → α} {g : α → β} {Q : α → Prop} {t : TypeId} {fs : Array Field} (ht : P.underlying t = some (.struct fs)) (hc : P.cellsOf t = d.sz) (hfg : ∀ x, f (g x) = x) (hd : OpensF P d Q fs.toList 0) :
    Opens P (Kd.iso d f) (fun x => Q (f x)) t := by
  refine ⟨hc, fun H enc w base spare held fuel cs x h => ?_⟩
  obtain ⟨xs, n, _, _, hl, hxl, hf⟩ := DataW.trod_struct ht h
  obtain ⟨v, hv, hq⟩ := hd H enc w base spare held n cs (fun fl hfl => by
    obtain ⟨i, hi⟩ := List.getElem?_of_mem hfl
    have hi' : fs[i]? = some fl := by simpa using hi
    have hlt : i < xs.length := by rw [hxl]; exact (Array.getElem?_eq_some_iff.1 hi').1
    exact ⟨xs[i], (hf i fl hi').trans (List.getElem?_eq_getElem hlt)⟩)
  rw [List.drop_zero, List.take_of_length_le (by omega)] at hv
  exact ⟨g v, by show d.K w (f (g v)) cs; rw [hfg]; exact hv, by show Q (f (g v)); rw [hfg]; exact hq⟩

/-- An argument that came in is of its kind. -/
theorem opens_arg {α : Type} {P : Program} {d : Kd α} {Q : α → Prop} {t : TypeId} (hd : Opens P d Q t) {H : Type} {enc : TypeId × Value → H} {w : World} {base : Nat} {spare : Nat → Bool} {held : Bool} {v : Value} {x : DataW H} {p : List MemPlace}
    (h : DataW.Trod enc P w base spare held t v x p) : ∃ y, d.K w y v.cells.toList ∧ Q y := by
  obtain ⟨fuel, hf⟩ := h
  exact hd.2 H enc w base spare held fuel v.cells.toList _ hf

end Go.Proofs.Ytmpahimeljbliaa.Opens
namespace Go.Proofs.Ytmpahimeljbliaa.ZipOpens
open Go.RowKit Go.Proofs Go.ChangeShapes Go.WideShapes Go.Deep Go.Proofs.YtmpahimeljbliaaW.PrintWords Go.Proofs.Ytmpahimeljbliaa.P Go.Proofs.Ytmpahimeljbliaa.Opens

theorem o5 : Opens Try.prog (Kd.int .u8) (fun n => (Lit.int .u8 n).wf = true) 5 := opens_int Try.underlying5 (by kernel_rfl)
theorem o9 : Opens Try.prog Kd.string (fun s => s.size ≤ maxLen) 9 := opens_string Try.underlying9 (by kernel_rfl)
theorem o22 : Opens Try.prog (Kd.slice 5 (Kd.int .u8)) (fun xs => ∀ x ∈ xs, (Lit.int .u8 x).wf = true) 22 := opens_slice Try.underlying22 (by kernel_rfl) o5
theorem o50 : Opens Try.prog k50 (fun x => x.f0.size ≤ maxLen ∧ ∀ n ∈ x.f1, (Lit.int .u8 n).wf = true) 50 :=
  opens_struct (β := S50) (f := fun x => (x.f0, x.f1)) (g := fun x => ⟨x.1, x.2⟩) Try.underlying50 (by kernel_rfl) (fun _ => rfl) (opensF_cons rfl rfl o9 (opensF_one rfl o22))
theorem o41 : Opens Try.prog (Kd.slice 50 k50) (fun xs => ∀ x ∈ xs, x.f0.size ≤ maxLen ∧ ∀ n ∈ x.f1, (Lit.int .u8 n).wf = true) 41 := opens_slice Try.underlying41 (by kernel_rfl) o50

set_option maxRecDepth 100000 in
theorem open_files {H : Type} {enc : TypeId × Value → H} {W : World} {r : Reach} {b0 base : Nat} {spare : Nat → Bool} {held : Bool} {v : Value} {d : DataW H} {p : List MemPlace} {ts : List TypeId} {ds : List (DataW H)} {j : Nat}
    (hsz : (DataW.weightsEach Try.prog ts ds).all (· ≤ reachBytes) = true) (htj : ts[j]? = some 41) (hdj : ds[j]? = some d)
    (hv : Value.okWide Try.prog W r b0 41 v) (h : DataW.Trod enc Try.prog W base spare held 41 v d p) :
    ∃ (A : Option Addr) (c : Nat) (l : List S50), v = .slice A l.length c ∧ l.length ≤ c ∧ k50.C W A l.length l ∧ l.length ≤ 140737488355328 ∧ ∀ x ∈ l, x.f0.size ≤ maxLen ∧ ∀ n ∈ x.f1, (Lit.int .u8 n).wf = true := by
  obtain ⟨a0, len0, cap0, rfl⟩ := okWide_slice Try.underlying41 hv
  have hx := opens_arg o41 h
  obtain ⟨l, hx, hq⟩ := hx
  obtain ⟨A, c, e1, hc, hC⟩ := hx
  simp [Value.cells] at e1
  obtain ⟨rfl, rfl, rfl⟩ := e1
  refine ⟨_, _, l, rfl, hc, hC, ?_, hq⟩
  obtain ⟨fuel, hf⟩ := h
  rcases open_slice Try.underlying41 hf with ⟨e1, _⟩ | ⟨a, len, cap, m, n, D, Pl, e1, _, hl, hm, hmm, e2, hi⟩
  · simp [Value.cells] at e1
    omega
  · simp [Value.cells] at e1
    obtain ⟨rfl, rfl, rfl⟩ := e1
    obtain ⟨rfl, -⟩ := Prod.mk.inj e2
    have := sized_slice hsz htj hdj Try.underlying41
    rw [List.length_map, List.length_range, show Try.prog.bytesOf 50 = 40 from by kernel_rfl] at this
    have hr : reachBytes = 140737488351232 := rfl
    omega
end Go.Proofs.Ytmpahimeljbliaa.ZipOpens
namespace Go.Proofs.Ytmpahimeljbliaa.ZipGreat
open Go.RowKit Go.Proofs Go.Proofs.Ytmpahimeljbliaa.P Go.Proofs.YtmpahimeljbliaaW.PrintWords Go.Proofs.YtmpahimeljbliaaW.PrintLast

/-- What is known of the files when not so much is asked. -/
def Small (l : List S50) (j : Nat) : Prop := l.length ≤ 300 ∧ ∀ x ∈ l.drop j, x.f1.length ≤ 524288 ∧ x.f0.size ≤ 1000
theorem rd_at (l : List S50) (j : Nat) (hj : j < l.length) : rd_T50 l (j : Int) = l[j] := by
  unfold rd_T50
  rw [Int.toNat_natCast, List.getD_eq_getElem?_getD, List.getElem?_eq_getElem hj]
  rfl
theorem great_l0 (l : List S50) (hlen : l.length ≤ 140737488355328) : ∀ (d j k : Nat) (s : Int), j + d = l.length → 3 * d + 6 < k → 0 ≤ s → s ≤ 1048576 → ∃ b, messuagelaw07_great.l0 k l s j = some b ∧ (b = false → Small l j)
  | 0, j, k, s, hj, hk, h0, h1 => by
    obtain ⟨k, rfl⟩ : ∃ m, k = m + 1 + 1 := ⟨k - 2, by omega⟩
    rw [messuagelaw07_great.l0, if_neg (by omega), messuagelaw07_great.j1, if_neg (by decide)]
    refine ⟨_, rfl, fun hb => ⟨?_, ?_⟩⟩
    · have := of_decide_eq_false hb
      omega
    · rw [List.drop_of_length_le (by omega)]
      intro x hx
      cases hx
  | d + 1, j, k, s, hj, hk, h0, h1 => by
    obtain ⟨k, rfl⟩ : ∃ m, k = m + 1 + 1 + 1 := ⟨k - 3, by omega⟩
    have c1 : (j : Int) < (l.length : Int) := by omega
    have c0 : (0 : Int) ≤ (j : Int) := by omega
    have hjl : j < l.length := by omega
    have hx := rd_at l j hjl
    rw [messuagelaw07_great.l0, if_pos c1, messuagelaw07_great.j1, hx]
    by_cases h3 : (j : Int) < 300
    · rw [if_pos (decide_eq_true h3), if_pos c0, if_pos c1]
      by_cases h5 : (l[j].f1.length : Int) > 524288
      · rw [if_pos h5, messuagelaw07_great.j2, if_pos rfl]
        exact ⟨_, rfl, fun h => by cases h⟩
      · rw [if_neg h5, messuagelaw07_great.j2, hx]
        by_cases h6 : (l[j].f0.size : Int) > 1000
        · rw [if_pos (decide_eq_true h6)]
          exact ⟨_, rfl, fun h => by cases h⟩
        · rw [if_neg (by simpa using h6), if_pos c0, if_pos c1]
          have ih := fun s h0 h1 => great_l0 l hlen d (j + 1) k s (by omega) (by omega) h0 h1
          have hb : 0 ≤ s + (l[j].f1.length : Int) ∧ s + (l[j].f1.length : Int) ≤ 2000000 := by omega
          have e1 : wrap64 (s + (l[j].f1.length : Int)) = s + (l[j].f1.length : Int) := ZipNumP.w64i _ (by omega) (by omega)
          have e2 : wrap64 ((j : Int) + 1) = ((j + 1 : Nat) : Int) := by rw [ZipNumP.w64i _ (by omega) (by omega)]; omega
          rw [e1, e2]
          by_cases h7 : s + (l[j].f1.length : Int) > 1048576
          · rw [if_pos h7]
            exact ⟨_, rfl, fun h => by cases h⟩
          · rw [if_neg h7]
            obtain ⟨b, hb1, hb2⟩ := ih _ hb.1 (Int.not_lt.1 h7)
            refine ⟨b, hb1, fun hf => ⟨(hb2 hf).1, ?_⟩⟩
            rw [List.drop_eq_getElem_cons hjl]
            intro x hxm
            rcases List.mem_cons.1 hxm with rfl | hxm
            · clear e1 e2; omega
            · exact (hb2 hf).2 x hxm
    · rw [if_neg (by simpa using h3)]
      have : decide ((l.length : Int) > 300) = true := decide_eq_true (by omega)
      rw [this]
      exact ⟨_, rfl, fun h => by cases h⟩
theorem great_f (l : List S50) (hlen : l.length ≤ 140737488355328) (k : Nat) (hk : 3 * l.length + 6 < k) : ∃ b, messuagelaw07_great.f k l = some b ∧ (b = false → l.length ≤ 300 ∧ ∀ x ∈ l, x.f1.length ≤ 524288 ∧ x.f0.size ≤ 1000) := by
  obtain ⟨b, h1, h2⟩ := great_l0 l hlen l.length 0 k 0 (by omega) hk (by omega) (by omega)
  exact ⟨b, h1, fun h => h2 h⟩
end Go.Proofs.Ytmpahimeljbliaa.ZipGreat
namespace Go.Proofs.Ytmpahimeljbliaa.Pure
open Go.RowKit Go.Proofs.Ytmpahimeljbliaa.P Go.Proofs.YtmpahimeljbliaaW.PrintWords Go.Proofs.YtmpahimeljbliaaW.PrintLast
open ZipPureA ZipNumP
open ZipPure (F Ent entAt listOf findOf firstNamed placeOf makeOf partsOf entsFrom rowOf Bytes putBytes localOf centralOf)

theorem bytes_app {a b : List Int} (ha : Bytes a) (hb : Bytes b) : Bytes (a ++ b) := fun x hx => (List.mem_append.1 hx).elim (ha x) (hb x)
theorem bytes_row : ∀ r : List (Int × Nat), Bytes (rowOf r)
  | [] => fun x hx => by cases hx
  | (n, k) :: r => bytes_app (ZipPure.putBytes_bytes k n) (bytes_row r)
theorem bytes_rep (n : Nat) : Bytes (List.replicate n 0) := fun x hx => by rw [List.eq_of_mem_replicate hx]; omega
theorem bytes_parts : ∀ (l : List F) (b c : List Int), (∀ f ∈ l, Bytes f.1 ∧ Bytes f.2) → Bytes b → Bytes c → Bytes (partsOf l b c).1.1 ∧ Bytes (partsOf l b c).1.2
  | [], b, c, _, hb, hc => ⟨hb, hc⟩
  | f :: r, b, c, hf, hb, hc => by
    have h1 := hf f List.mem_cons_self
    have hn : Bytes ([] : List Int) := fun x hx => by cases hx
    rw [partsOf]
    split
    · exact ⟨hn, hn⟩
    · split
      · exact ⟨hn, hn⟩
      · simp only []
        split
        · exact ⟨hn, hn⟩
        · exact bytes_parts r _ _ (fun g hg => hf g (List.mem_cons_of_mem _ hg)) (bytes_app hb (bytes_app (bytes_row _) (bytes_app h1.1 (bytes_app (bytes_rep _) h1.2)))) (bytes_app hc (bytes_app (bytes_row _) h1.1))
theorem bytes_made (l : List F) (hf : ∀ f ∈ l, Bytes f.1 ∧ Bytes f.2) : Bytes (makeOf l).1 := by
  have hn : Bytes ([] : List Int) := fun x hx => by cases hx
  have := bytes_parts l [] [] hf hn hn
  unfold makeOf
  split
  · exact hn
  · simp only []
    split
    · exact hn
    · exact bytes_app this.1 (bytes_app this.2 (bytes_row _))
theorem made_none (L : List F) (he : ¬ (makeOf L).2 = 0) : (makeOf L).1 = [] := by
  unfold makeOf at he ⊢
  split
  · rfl
  · rename_i hc
    rw [if_neg hc] at he
    simp only [] at he ⊢
    split
    · rfl
    · rename_i hc2
      rw [if_neg hc2] at he
      exact absurd rfl he
theorem bytes_str (s : ByteArray) : Bytes (bytesOf s) := fun x hx => by
  unfold bytesOf at hx
  obtain ⟨b, -, rfl⟩ := List.mem_map.1 hx
  have := b.toNat_lt
  omega
theorem str_of_bytes (s : ByteArray) : (strOfNums (bytesOf s)).toList = s.toList := (str_name (bytes_str s) s).2 rfl
theorem str_iff (s t : ByteArray) : s.toList = t.toList ↔ bytesOf s = bytesOf t := by
  rw [← str_of_bytes s]
  exact str_name (bytes_str s) t
def fl (l : List S50) : List F := l.map fun x => (bytesOf x.f0, x.f1)

end Go.Proofs.Ytmpahimeljbliaa.Pure
namespace Go.Proofs.Ytmpahimeljbliaa.ZipMoreW
open Go.RowKit Go.Proofs Go.Proofs.Ytmpahimeljbliaa.P Go.Proofs.YtmpahimeljbliaaW.PrintWords Go.Proofs.YtmpahimeljbliaaW.PrintLast Go.Proofs.YtmpahimeljbliaaW.PrintMore
open Go.Proofs.Ytmpahimeljbliaa.Pure (fl bytes_made bytes_str)
open ZipPure (makeOf findOf Bytes)

theorem k50_one (w : World) (x : S50) {A : Option Addr} {c : Nat} (hc : x.f1.length ≤ c) (h : (Kd.int .u8).C w A x.f1.length x.f1) {ad : Addr} (h0 : w.cell? ad = some (.string x.f0)) (h1 : w.cell? (ad.add 1) = some (.slice A x.f1.length c)) : k50.C w (some ad) 1 [x] :=
  ⟨rfl, by omega, fun _ => ⟨ad, rfl, fun j p hj => by
    obtain ⟨rfl, rfl⟩ : j = 0 ∧ p = x := by
      rcases j with _ | j
      · exact ⟨rfl, by simpa using hj.symm⟩
      · simp at hj
    exact ⟨_, rfl, k50_mk w p hc h, fun i u hu => by
      rcases i with _ | i
      · obtain rfl := Option.some.inj hu
        simpa [Addr.add] using h0
      · rcases i with _ | i
        · obtain rfl := Option.some.inj hu
          simpa using h1
        · simp at hu⟩⟩⟩
theorem info50 : (Try.prog.info? 50).map (fun i => (i.zero, i.size, i.bytes)) = some (some (.agg #[.string ⟨#[]⟩, .slice none 0 0]), 2, 40) := by kernel_rfl
/-- append(more, l...), more nil. -/
theorem more_append {P : Program} {w : World} {ops : Array Oper} {rest : List Oper} {o : Oper} {a : Act} {Q : Exit → Act → World → Prop} (hgd : o.guard = none) (s x : Operand) (t : TypeId)
    (ho : o.op = .call { callee := .builtin .append, args := #[s, x], argTypes := #[t, t] }) (e : TypeId) (z : Value) (bytes : Nat) (ht : P.underlying t = some (.slice e)) (hinfo : (P.info? e).map (fun i => (i.zero, i.size, i.bytes)) = some (some z, 2, bytes)) (hzs : z.cells.size = 2) (base : Nat) (hbase : base ≤ w.heap.size) (A : Option Addr) (c : Nat) (l : List S50) (hs : a.eval s = .slice none 0 0) (hx : a.eval x = .slice A l.length c) (hA : A = none → c = 0)
    (hC : k50.C w A l.length l) (h63 : l.length ≤ maxLen) (hbytes : l.length * bytes ≤ 140737488355328)
    (h : ∀ v' w', OwnRow (k50.K w) e 2 w' base v' l → Below w.heap.size w w' → wpList P ops Q rest (a.put o.dst v') w') : wpList P ops Q (o :: rest) a w := by
  obtain ⟨i, hi, hz, hsize, hby⟩ := info_parts hinfo
  rcases A with _ | ad
  · have hl : l = [] := by
      rcases l with _ | ⟨y, l⟩
      · rfl
      · obtain ⟨ad, e, _⟩ := hC.2.2 (by simp)
        cases e
    subst hl
    obtain rfl := hA rfl
    exact wpList_append_own_none hgd s x t ho base e i 2 ht hi _ 0 [] hs ⟨rfl, .inl ⟨rfl, rfl⟩⟩ hx (h _ _ (OwnRow.none_ _ _ _ _ _) (Below.refl _ _))
  · obtain ⟨inner, hr, hcell⟩ := ReadsRow.inner_ hC
    replace hr : Reps (k50.K w) 2 l inner := hr
    refine wpList_append_own w hgd s x t ho base e i z 2 bytes ht hi hz hsize hby hzs (by omega) _ 0 [] hs ⟨rfl, .inl ⟨rfl, rfl⟩⟩ ad l.length c inner hx hr.1 hcell (fun u hu => ?_) (by omega) (by rw [Nat.zero_add]; exact hbytes) hbase ?_
    · obtain ⟨j, hj, rfl⟩ := List.getElem_of_mem hu
      have hjl : j / 2 < l.length := by have := hr.1; omega
      have hk := hr.2 (j / 2) _ (List.getElem?_eq_getElem hjl)
      refine k50.K_one hk _ ?_
      rw [List.mem_iff_getElem?]
      refine ⟨j % 2, ?_⟩
      rw [List.getElem?_take_of_lt (by omega), List.getElem?_drop, show j / 2 * 2 + j % 2 = j from by omega]
      exact List.getElem?_eq_getElem hj
    · intro v' w' ho' hg _
      refine h v' w' ⟨inner, by simpa using ho', hr⟩ ?_
      exact Below.grown (Below.refl _ _) hg (Nat.le_refl _) (fun k hk => by simp [Value.ownBlock] at hk)

/-- The argument's box. -/
structure Box (w : World) (g : Nat) (x : S50) (Ax : Option Addr) (cx : Nat) : Prop where
  c0 : w.cell? ⟨g, 0, none⟩ = some (.string x.f0)
  c1 : w.cell? ⟨g, 1, none⟩ = some (.slice Ax x.f1.length cx)
theorem Box.below {w w1 : World} {g : Nat} {x : S50} {Ax : Option Addr} {cx B : Nat} (h : Box w g x Ax cx) (hg : g < B) (hb : Below B w w1) : Box w1 g x Ax cx :=
  ⟨(hb.cell (p := ⟨g, 0, none⟩) hg).trans h.c0, (hb.cell (p := ⟨g, 1, none⟩) hg).trans h.c1⟩
theorem box_new (w : World) (x : S50) (Ax : Option Addr) (cx : Nat) : Box (w.alloc (.cells #[.string x.f0, .slice Ax x.f1.length cx] 50)) w.heap.size x Ax cx := ⟨by simp [go_sem], by simp [go_sem]⟩
theorem more_b3 {w W W3 : World} {o : Obj} (h : Below w.heap.size w W) (hd : ∃ m, W3 = (W.alloc o).drewN m) : Below w.heap.size w W3 := by
  obtain ⟨m, rfl⟩ := hd
  exact pw_below_drewN (below_alloc h _) m
theorem more_k1 {w W3 : World} {x : S50} {Ax : Option Addr} {cx : Nat} (hd : ∃ m, W3 = (w.alloc (.cells #[.string x.f0, .slice Ax x.f1.length cx] 50)).drewN m) : Box W3 w.heap.size x Ax cx := by
  obtain ⟨m, rfl⟩ := hd
  have h := box_new w x Ax cx
  exact ⟨h.c0, h.c1⟩
theorem more_k3 {W W3 : World} {g : Nat} {o : Obj} {x : S50} {Ax : Option Addr} {cx : Nat} (hg : g < W.heap.size) (h : Box W g x Ax cx) (hd : ∃ m, W3 = (W.alloc o).drewN m) : Box W3 g x Ax cx := by
  obtain ⟨m, rfl⟩ := hd
  have := h.below (B := W.heap.size) hg ((Below.refl _ _).alloc (Nat.le_refl _) o)
  exact ⟨this.c0, this.c1⟩
theorem box_C {w W : World} {x : S50} {Ax : Option Addr} {cx : Nat} (hx : (Kd.int .u8).C w Ax x.f1.length x.f1) (hcx : x.f1.length ≤ cx) (hb : Below w.heap.size w W) :
    k50.C (W.alloc (.cells #[.string x.f0, .slice Ax x.f1.length cx] 50)) (some ⟨W.heap.size, 0, none⟩) 1 [x] :=
  k50_one _ x hcx (Kd.C_below hx (below_alloc hb _)) (box_new W x Ax cx).c0 (box_new W x Ax cx).c1
theorem alive_true : messuagelaw07_alive.f = some true := rfl
set_option maxRecDepth 100000 in
set_option maxHeartbeats 2000000 in
theorem more_in (k : Nat) (A0 : Option Addr) (c0 : Nat) (l : List S50) (x : S50) (Ax : Option Addr) (cx : Nat) (s : ByteArray) (w : World)
    (hr : k50.C w A0 l.length l) (hc : l.length ≤ c0) (hn : A0 = none → c0 = 0) (hx : (Kd.int .u8).C w Ax x.f1.length x.f1) (hcx : x.f1.length ≤ cx) (b1 b2 : Bool)
    (h1 : messuagelaw07_great.f k l = some b1) (h2 : messuagelaw07_great.f k [x] = some b2) (hs1 : b1 = false → l.length ≤ 300) (a b : List Int) (ea eb : Int) (hm1 : zip_Make.f l = some (a, ea)) (hm2 : zip_Make.f (l ++ [x]) = some (b, eb)) (p1 q1 g1 p2 q2 g2 : Int) (hf1 : zip_Find.f k a s = some (p1, q1, g1)) (hf2 : zip_Find.f k b s = some (p2, q2, g2))
    (hme : ea ≠ 0 → eb ≠ 0) (hmg : ea = 0 → eb = 0 → (g1 = 0 → (p2, q2, g2) = (p1, q1, g1)) ∧ (g1 ≠ 0 → g1 = 71 ∧ (g2 = 0 ↔ x.f0.toList = s.toList))) :
    Calls Try.prog 8 #[.slice A0 l.length c0, .agg #[.string x.f0, .slice Ax x.f1.length cx], .string s] w fun e w' => e = .returned (.bool true) ∧ Below w.heap.size w w' := by
  have HR := Aside0.mk hr
  have HC := Aside0.mk hc
  have HN := Aside0.mk hn
  have HX := Aside0.mk hx
  have HCX := Aside0.mk hcx
  have H1 := Aside0.mk h1
  have H2 := Aside0.mk h2
  have HS := Aside0.mk hs1
  have HM1 := Aside0.mk hm1
  have HM2 := Aside0.mk hm2
  have HF1 := Aside0.mk hf1
  have HF2 := Aside0.mk hf2
  have HME := Aside0.mk hme
  have HMG := Aside0.mk hmg
  clear hr hc hn hx hcx h1 h2 hs1 hm1 hm2 hf1 hf2 hme hmg
  obtain ⟨W, hW⟩ : ∃ W, W = w.alloc (.cells #[.string x.f0, .slice Ax x.f1.length cx] 50) := ⟨_, rfl⟩
  have HRW := Aside0.mk (show k50.C W A0 l.length l from hW ▸ Kd.C_below HR.out (below_alloc (Below.refl _ _) _))
  have hgr := messuagelaw07_great.calls k A0 c0 l b1 W HRW.out HC.out H1.out
  rw [hW] at hgr
  have HG1 := Aside0.mk hgr
  clear hgr hW HRW
  cases b1 with
  | true =>
    go_enter Try.func8, Try.ntmps8
    go_wp2_with (go_at_call 19; (with_reducible refine HG1.out.mono ?_); rintro _ W1 ⟨rfl, hd⟩; have HD := Aside0.mk hd; clear hd)
    go_ret
    obtain ⟨m, rfl⟩ := HD.out.out
    exact ⟨rfl, pw_below_drewN (below_alloc (Below.refl _ _) _) m⟩
  | false =>
    have hl3 : l.length ≤ 300 := HS.out rfl
    go_enter Try.func8, Try.ntmps8
    go_wp2_with fail
    (with_reducible refine HG1.out.mono ?_)
    rintro _ W1 ⟨rfl, hd⟩
    have HB1 := Aside0.mk (more_b3 (Below.refl _ _) hd.out)
    have HK1 := Aside0.mk (more_k1 hd.out)
    clear hd
    have hk0 := HK1.out.c0
    have hk1 := HK1.out.c1
    have hz1 : w.heap.size < W1.heap.size := World.block_lt_of_cell? W1 _ hk0
    cases b2 with
    | true =>
      go_wp2_with (go_at_call 19; (have HQ : Calls Try.prog 19 #[.slice (some ⟨W1.heap.size, 0, none⟩) 1 1] (W1.alloc (.cells #[.string x.f0, .slice Ax x.f1.length cx] 50)) _ := messuagelaw07_great.calls k (some ⟨W1.heap.size, 0, none⟩) 1 [x] true (W1.alloc (.cells #[.string x.f0, .slice Ax x.f1.length cx] 50)) (box_C HX.out HCX.out (HB1.out)) (by simp) H2.out); (with_reducible refine HQ.mono ?_); rintro _ W3 ⟨rfl, hd3⟩; have HD3 := Aside0.mk hd3; clear hd3)
      go_ret
      obtain ⟨m, rfl⟩ := HD3.out.out
      exact ⟨rfl, pw_below_drewN (below_alloc HB1.out _) m⟩
    | false =>
      go_wp2_with (go_at_call 19; (have HQ : Calls Try.prog 19 #[.slice (some ⟨W1.heap.size, 0, none⟩) 1 1] (W1.alloc (.cells #[.string x.f0, .slice Ax x.f1.length cx] 50)) _ := messuagelaw07_great.calls k (some ⟨W1.heap.size, 0, none⟩) 1 [x] false (W1.alloc (.cells #[.string x.f0, .slice Ax x.f1.length cx] 50)) (box_C HX.out HCX.out (HB1.out)) (by simp) H2.out); (with_reducible refine HQ.mono ?_); rintro _ W3 ⟨rfl, hd3⟩; have HB3 := Aside0.mk (more_b3 HB1.out hd3.out); have HK3 := Aside0.mk (more_k3 (by omega) HK1.out hd3.out); clear hd3)
      have hk30 := HK3.out.c0
      have hk31 := HK3.out.c1
      have hz3 : w.heap.size < W3.heap.size := World.block_lt_of_cell? W3 _ hk30
      clear hk0 hk1
      have HQ := zip_Make.calls A0 c0 l a ea W3 (Kd.C_below HR.out HB3.out) HC.out HM1.out
      go_wp2_with fail
      with_reducible refine HQ.mono ?_
      clear HQ
      rintro _ W4 ⟨v4, rfl, hR4, hB4⟩
      obtain ⟨A4, c4, rfl⟩ := Kd.R_slice hR4
      have HA4 := Aside0.mk hR4
      have HB4 := Aside0.mk hB4
      have HK4 := Aside0.mk (HK3.out.below hz3 hB4)
      have HW4 := Aside0.mk (below_then HB3.out (Nat.le_of_lt hz3) hB4)
      clear hR4 hB4
      have hk40 := HK4.out.c0
      have hk41 := HK4.out.c1
      have hz4 : w.heap.size < W4.heap.size := World.block_lt_of_cell? W4 _ hk40
      clear hk30 hk31
      go_wp2_with (first
        | (at_builtin; refine more_append rfl (.tmp 30) (.tmp 31) 41 rfl 50 _ 40 Try.underlying41 info50 rfl W4.heap.size (Nat.le_refl _) A0 c0 l rfl rfl HN.out (Kd.C_below HR.out HW4.out) (by unfold maxLen; omega) (by omega) ?_; intro v5 W5 ho5 hb5; have HO5 := Aside0.mk ho5; have HB5 := Aside0.mk hb5; have HK5 := Aside0.mk (HK4.out.below hz4 hb5); clear ho5 hb5 hk40 hk41; have hk50 := HK5.out.c0; have hk51 := HK5.out.c1; have hz45 : W4.heap.size ≤ W5.heap.size := HB5.out.size)
        | (at_builtin; refine OwnRow.append (w0 := W4) W4.heap.size rfl (.tmp 33) (.tmp 35) 41 50 _ 2 40 rfl Try.underlying41 info50 rfl (by omega) (by omega) v5 l x [.string x.f0, .slice Ax x.f1.length cx] rfl rfl (k50_mk W4 x HCX.out (Kd.C_below HX.out HW4.out)) rfl (by simp [Value.oneCell']) HO5.out HB5.out hz45 (by omega) ?_; intro v6 W6 ho6 hb6 hg6 _; obtain ⟨A6, c6, rfl, hl6, hr6⟩ := OwnRow.reads ho6; have hC6 : k50.C W6 A6 (l ++ [x]).length (l ++ [x]) := ReadsRow.imp_ (w := W6) hr6 (Below.refl _ _) (fun p c h => k50.K_below hb6 h); have HC6 := Aside0.mk hC6; have HL6 := Aside0.mk hl6; have HB6 := Aside0.mk hb6; have HK6 := Aside0.mk (HK4.out.below hz4 hb6); have HW6 := Aside0.mk (below_then HW4.out (Nat.le_of_lt hz4) hb6); clear ho6 hb6 hg6 hr6 hC6 hl6 hk50 hk51))
      have HQ : Calls Try.prog 20 #[.slice A6 (l.length + 1) c6] W6 _ := (by have h := zip_Make.calls A6 c6 (l ++ [x]) b eb W6 HC6.out HL6.out HM2.out; rw [List.length_append, List.length_singleton] at h; exact h)
      with_reducible refine HQ.mono ?_
      clear HQ
      rintro _ W7 ⟨v7, rfl, hR7, hB7⟩
      obtain ⟨A7, c7, rfl⟩ := Kd.R_slice hR7
      have hz6 : w.heap.size < W6.heap.size := World.block_lt_of_cell? W6 _ HK6.out.c0
      have HC7 := Aside0.mk (Kd.R_reads' hR7)
      have HK7 := Aside0.mk (HK6.out.below hz6 hB7)
      have HW7 := Aside0.mk (below_then HW6.out (Nat.le_of_lt hz6) hB7)
      have HD7 := Aside0.mk (Kd.C_below (Kd.C_below (Kd.R_reads' HA4.out).2.2 HB6.out) hB7)
      have HL4 := Aside0.mk (Kd.R_reads' HA4.out).2.1
      clear hR7 hB7
      have hk70 := HK7.out.c0
      have hk71 := HK7.out.c1
      have hz7 : w.heap.size < W7.heap.size := World.block_lt_of_cell? W7 _ hk70
      clear HR HC HN HX HCX HS HM1 HM2 HA4 HB4 HK4 HO5 HB5 HK5 HC6 HL6 HB6 HK6 HB1 HB3 HK1 HK3
      by_cases he : ea = 0 ∧ eb = 0
      · have HG := Aside0.mk (HMG.out he.1 he.2)
        obtain ⟨rfl, rfl⟩ := he
        clear HMG HME
        have HQ1 := zip_Find.calls k A4 c4 a s p1 q1 g1 W7 HD7.out HL4.out HF1.out
        go_wp2_with fail
        with_reducible refine HQ1.mono ?_
        clear HQ1
        rintro _ W8 ⟨rfl, hB8⟩
        have HC8 := Aside0.mk (Kd.C_below HC7.out.2.2 hB8)
        have HK8 := Aside0.mk (HK7.out.below hz7 hB8)
        have HW8 := Aside0.mk (below_then HW7.out (Nat.le_of_lt hz7) hB8)
        clear hB8 hk70 hk71
        have hz8 : w.heap.size < W8.heap.size := World.block_lt_of_cell? W8 _ HK8.out.c0
        have HQ2 := zip_Find.calls k A7 c7 b s p2 q2 g2 W8 HC8.out HC7.out.2.1 HF2.out
        go_wp2_with fail
        with_reducible refine HQ2.mono ?_
        clear HQ2
        rintro _ W9 ⟨rfl, hB9⟩
        have HK9 := Aside0.mk (HK8.out.below hz8 hB9)
        have HW9 := Aside0.mk (below_then HW8.out (Nat.le_of_lt hz8) hB9)
        clear hB9
        have hk90 := HK9.out.c0
        have hk91 := HK9.out.c1
        have hz9 : w.heap.size < W9.heap.size := World.block_lt_of_cell? W9 _ hk90
        have hmg := HG.out
        by_cases hg : g1 = 0
        · obtain ⟨h1, h2, h3⟩ := (hmg.1 hg)
          subst hg
          clear hmg
          have HA := messuagelaw07_alive.calls true W9 alive_true
          go_wp2_with (go_at_call 16; (with_reducible refine HA.mono ?_); clear HA; rintro _ W10 ⟨rfl, hB10⟩; have HW10 := Aside0.mk (below_then HW9.out (Nat.le_of_lt hz9) hB10); clear hB10)
          go_ret
          exact ⟨by first | rfl | simp, HW10.out⟩
        · obtain ⟨h1, h2⟩ := (hmg.2 hg)
          subst h1
          clear hmg hg
          by_cases hn : x.f0.toList = s.toList
          · have hz := h2.2 hn
            subst hz
            clear h2
            have hb : (x.f0.toList == s.toList) = true := beq_iff_eq.2 hn
            clear hn
            have HA := messuagelaw07_alive.calls true W9 alive_true
            go_wp2_with (go_at_call 16; (with_reducible refine HA.mono ?_); clear HA; rintro _ W10 ⟨rfl, hB10⟩; have HW10 := Aside0.mk (below_then HW9.out (Nat.le_of_lt hz9) hB10); clear hB10)
            go_ret
            exact ⟨by first | rfl | simp, HW10.out⟩
          · have hz : g2 ≠ 0 := fun h => hn (h2.1 h)
            clear h2
            have hb : (x.f0.toList == s.toList) = false := beq_eq_false_iff_ne.2 hn
            have hb2 : (g2 == 0) = false := beq_eq_false_iff_ne.2 hz
            clear hn hz
            have HA := messuagelaw07_alive.calls true W9 alive_true
            go_wp2_with (go_at_call 16; (with_reducible refine HA.mono ?_); clear HA; rintro _ W10 ⟨rfl, hB10⟩; have HW10 := Aside0.mk (below_then HW9.out (Nat.le_of_lt hz9) hB10); clear hB10)
            go_ret
            exact ⟨by first | rfl | simp, HW10.out⟩
      · have hne : eb ≠ 0 := fun h => by
          by_cases h1 : ea = 0
          · exact he ⟨h1, h⟩
          · exact HME.out h1 h
        have hb1 : (eb != 0) = true := bne_iff_ne.2 hne
        clear he hne
        by_cases h1 : ea = 0
        · subst h1
          have HA := messuagelaw07_alive.calls true W7 alive_true
          go_wp2_with (go_at_call 16; (with_reducible refine HA.mono ?_); clear HA; rintro _ W10 ⟨rfl, hB10⟩; have HW10 := Aside0.mk (below_then HW7.out (Nat.le_of_lt hz7) hB10); clear hB10)
          go_ret
          exact ⟨by first | rfl | simp, HW10.out⟩
        · have hb2 : (ea != 0) = true := bne_iff_ne.2 h1
          have hb3 : (ea == 0) = false := beq_eq_false_iff_ne.2 h1
          clear h1
          have HA := messuagelaw07_alive.calls true W7 alive_true
          go_wp2_with (go_at_call 16; (with_reducible refine HA.mono ?_); clear HA; rintro _ W10 ⟨rfl, hB10⟩; have HW10 := Aside0.mk (below_then HW7.out (Nat.le_of_lt hz7) hB10); clear hB10)
          go_ret
          exact ⟨by first | rfl | simp, HW10.out⟩
end Go.Proofs.Ytmpahimeljbliaa.ZipMoreW
namespace Go.Proofs.Ytmpahimeljbliaa.zipMore
open Go.ChangeShapes Go.WideShapes Go.ChangeAt Go.RowKit
open Go.ChangeMaps (open_string shut_string)
open Go.Proofs Go.Proofs.YtmpahimeljbliaaW.PrintWords
set_option linter.unusedVariables false
open ZipPure (makeOf findOf Bytes)
theorem made_len (L : List ZipPure.F) : (makeOf L).1.length ≤ 262144 := by
  by_cases h : (makeOf L).2 = 0
  · obtain ⟨B, C, -, -, -, hl⟩ := ZipPure.make_lists L _ (show makeOf L = ((makeOf L).1, 0) from Prod.ext rfl h)
    exact hl
  · rw [Go.Proofs.Ytmpahimeljbliaa.Pure.made_none L h]
    simp
/-- What the walk asks, by the plain laws. -/
theorem plain (l : List P.S50) (x : P.S50) (s : ByteArray) (hlen : l.length ≤ 140737488355327) (hd : ∀ x ∈ l, Bytes x.f1) (hx : Bytes x.f1) (w : World) (A0 : Option Addr) (c0 : Nat) (Ax : Option Addr) (cx : Nat)
    (hr : P.k50.C w A0 l.length l) (hc : l.length ≤ c0) (hn : A0 = none → c0 = 0) (hxc : (Kd.int .u8).C w Ax x.f1.length x.f1) (hcx : x.f1.length ≤ cx) :
    Calls Try.prog 8 #[.slice A0 l.length c0, .agg #[.string x.f0, .slice Ax x.f1.length cx], .string s] w fun e w' => e = .returned (.bool true) ∧ Below w.heap.size w w' := by
  obtain ⟨b1, h1, h2⟩ := ZipGreat.great_f l (by omega) (3 * l.length + 200000) (by omega)
  obtain ⟨b2, h3, -⟩ := ZipGreat.great_f [x] (by simp) (3 * l.length + 200000) (by rw [List.length_singleton]; omega)
  have hfb : ∀ f ∈ Pure.fl l, Bytes f.1 ∧ Bytes f.2 := fun f hf => by
    unfold Pure.fl at hf
    obtain ⟨y, hy, rfl⟩ := List.mem_map.1 hf
    exact ⟨Pure.bytes_str _, hd y hy⟩
  have hfl : Pure.fl (l ++ [x]) = Pure.fl l ++ [(bytesOf x.f0, x.f1)] := by
    unfold Pure.fl
    rw [List.map_append]
    rfl
  have hfb2 : ∀ f ∈ Pure.fl (l ++ [x]), Bytes f.1 ∧ Bytes f.2 := fun f hf => by
    rw [hfl] at hf
    rcases List.mem_append.1 hf with hf | hf
    · exact hfb f hf
    · obtain rfl := List.mem_singleton.1 hf
      exact ⟨Pure.bytes_str _, hx⟩
  have hb1 := Pure.bytes_made _ hfb
  have hb2 := Pure.bytes_made _ hfb2
  have hl1 := made_len (Pure.fl l)
  have hl2 := made_len (Pure.fl (l ++ [x]))
  have hm1 : P.zip_Make.f l = some ((makeOf (Pure.fl l)).1, (makeOf (Pure.fl l)).2) := by
    rw [P.zip_Make.f, if_pos (by omega)]
    rfl
  have hm2 : P.zip_Make.f (l ++ [x]) = some ((makeOf (Pure.fl (l ++ [x]))).1, (makeOf (Pure.fl (l ++ [x]))).2) := by
    rw [P.zip_Make.f, if_pos (by rw [List.length_append, List.length_singleton]; omega)]
    rfl
  refine ZipMoreW.more_in (3 * l.length + 200000) A0 c0 l x Ax cx s w hr hc hn hxc hcx b1 b2 h1 h3 (fun h => (h2 h).1) _ _ _ _ hm1 hm2 _ _ _ _ _ _ (ZipPureA.find_f _ hb1 (by omega) s _ (by omega)) (ZipPureA.find_f _ hb2 (by omega) s _ (by omega)) (fun h => ?_) (fun e1 e2 => ?_)
  · rw [hfl]
    exact ZipPure.make_more _ _ h
  · have hmm := ZipPure.made_more (Pure.fl l) (bytesOf x.f0, x.f1) (bytesOf s) (makeOf (Pure.fl l)).1 (makeOf (Pure.fl (l ++ [x]))).1 (Prod.ext rfl e1) (by rw [← hfl]; exact Prod.ext rfl e2)
    refine ⟨fun hg => ?_, fun hg => ⟨(hmm.2 hg).1, (hmm.2 hg).2.trans (Pure.str_iff _ _).symm⟩⟩
    rw [hmm.1 hg]
set_option maxRecDepth 100000 in
theorem open_files2 {H : Type} {enc : TypeId × Value → H} {W : World} {r : Reach} {b0 base : Nat} {spare : Nat → Bool} {held : Bool} {v : Value} {d : DataW H} {p : List MemPlace} {ts : List TypeId} {ds : List (DataW H)} {j : Nat}
    (hsz : (DataW.weightsEach Try.prog ts ds).all (· ≤ reachBytes) = true) (htj : ts[j]? = some 41) (hdj : ds[j]? = some d)
    (hv : Value.okWide Try.prog W r b0 41 v) (h : DataW.Trod enc Try.prog W base spare held 41 v d p) :
    ∃ (A : Option Addr) (c : Nat) (l : List P.S50), v = .slice A l.length c ∧ l.length ≤ c ∧ P.k50.C W A l.length l ∧ l.length ≤ 140737488355327 ∧ (A = none → c = 0) ∧ ∀ x ∈ l, x.f0.size ≤ maxLen ∧ ∀ n ∈ x.f1, (Lit.int .u8 n).wf = true := by
  obtain ⟨a0, len0, cap0, rfl⟩ := okWide_slice Try.underlying41 hv
  have hx := Opens.opens_arg ZipOpens.o41 h
  obtain ⟨l, hx, hq⟩ := hx
  obtain ⟨A, c, e1, hc, hC⟩ := hx
  simp [Value.cells] at e1
  obtain ⟨rfl, rfl, rfl⟩ := e1
  obtain ⟨fuel, hf⟩ := h
  rcases Go.Deep.open_slice Try.underlying41 hf with ⟨e1, _⟩ | ⟨a, len, cap, m, n, D, Pl, e1, _, hl, hm, hmm, e2, hi⟩
  · simp [Value.cells] at e1
    exact ⟨_, _, l, rfl, hc, hC, by omega, fun _ => e1.2.2, hq⟩
  · simp [Value.cells] at e1
    obtain ⟨rfl, rfl, rfl⟩ := e1
    obtain ⟨rfl, -⟩ := Prod.mk.inj e2
    have := sized_slice hsz htj hdj Try.underlying41
    rw [List.length_map, List.length_range, show Try.prog.bytesOf 50 = 40 from by kernel_rfl] at this
    have hr : reachBytes = 140737488351232 := rfl
    exact ⟨_, _, l, rfl, hc, hC, by omega, (fun h => by cases h), hq⟩
set_option maxRecDepth 100000 in
theorem open_file {H : Type} {enc : TypeId × Value → H} {W : World} {r : Reach} {b0 base : Nat} {spare : Nat → Bool} {held : Bool} {v : Value} {d : DataW H} {p : List MemPlace}
    (hv : Value.okWide Try.prog W r b0 50 v) (h : DataW.Trod enc Try.prog W base spare held 50 v d p) :
    ∃ (A : Option Addr) (c : Nat) (x : P.S50), v = .agg #[.string x.f0, .slice A x.f1.length c] ∧ x.f1.length ≤ c ∧ (Kd.int .u8).C W A x.f1.length x.f1 ∧ ∀ n ∈ x.f1, (Lit.int .u8 n).wf = true := by
  obtain ⟨cs, rfl, _⟩ := okWide_struct Try.underlying50 hv
  obtain ⟨x, hk, hq⟩ := Opens.opens_arg ZipOpens.o50 h
  obtain ⟨A, c, e1, l1, g1⟩ := P.k50_open hk
  obtain rfl : cs = _ := Array.toList_inj.1 (e1.trans (show _ = (#[_, _] : Array Value).toList from rfl))
  exact ⟨A, c, x, rfl, l1, g1, hq.2⟩
theorem own : ownKnob Try.prog.godebug = none := by kernel_rfl
theorem laidOut : laidOutB Try.prog = true := by kernel_rfl
set_option maxRecDepth 100000 in
theorem lifted (os : Os) (started : os.Started) (H : Type) (enc : TypeId × Value → H) :
    ReturnsInHanded {} Try.checked os 8 .any (Rows.zipMoreSpec.pre6 enc Try.prog Try.f8 Rows.zipMoreRow.domain false) (Rows.zipMoreSpec.post enc Try.prog Try.f8 false true false false) := by
  refine returnsInHanded_of_change_sized (C := Try.checked) own started (by kernel_rfl) Try.func8
    (ChangeSpec.witness6 (enc := enc) (C := Try.checked) false ⟨#[], #[.slice none 0 0, .agg #[.string ByteArray.empty, .slice none 0 0], .string ByteArray.empty], []⟩ 8 (by kernel_rfl) (by kernel_rfl) (by kernel_rfl) (by kernel_rfl)) ?_
  intro W base args ds gs before hval0 hW hcnd hsz0 _
  have hsz : (DataW.weightsEach Try.prog (Try.f8.params.toList ++ Rows.zipMoreSpec.plain.varTypes Try.prog) (ds ++ gs)).all (· ≤ reachBytes) = true := hsz0
  have hval : ∀ (j : Nat) t v, Try.f8.params[j]? = some t → args[j]? = some v → Value.okWide Try.prog W .any base t v := hval0
  have hW' := hW
  obtain ⟨p, q, hA0, hV, rfl, hfz, hnd⟩ := hW
  have hA : DataW.TrodAll enc Try.prog W 0 (fun _ => true) true Try.f8.params.toList args.toList ds p := hA0
  rw [Try.params8] at hA hval hsz
  obtain ⟨v0, vs0, d0, ds0, p0, q0, hargs, rfl, rfl, h0, r0⟩ := trodAll_cons hA
  obtain ⟨v1, vs1, d1, ds1, p1, q1, rfl, rfl, rfl, h1, r1⟩ := trodAll_cons r0
  obtain ⟨v2, vs2, d2, ds2, p2, q2, rfl, rfl, rfl, h2, r2⟩ := trodAll_cons r1
  obtain ⟨rfl, rfl, rfl⟩ := trodAll_nil r2
  obtain rfl : args = #[v0, v1, v2] := by cases args; simp_all
  obtain ⟨rfl, rfl⟩ := trodVars_none hV
  have k0 := h0
  have lt0 : ∀ x ∈ p0, x.block < W.heap.size := by obtain ⟨m, hm⟩ := k0; exact DataW.trod_lt m _ _ _ hm
  have k1 := h1
  have lt1 : ∀ x ∈ p1, x.block < W.heap.size := by obtain ⟨m, hm⟩ := k1; exact DataW.trod_lt m _ _ _ hm
  obtain ⟨a0, c0, l0, rfl, hc0, hr0, hl0, hn0, hw0⟩ := open_files2 hsz (j := 0) rfl rfl (hval 0 41 v0 rfl rfl) h0
  obtain ⟨a1, c1, x1, rfl, hc1, hr1, hw1⟩ := open_file (hval 1 50 v1 rfl rfl) h1
  obtain ⟨s2, rfl, rfl, rfl, y2⟩ := open_string Try.underlying9 (hval 2 9 v2 rfl rfl) h2
  clear hA0 hval0 hsz0 hsz
  refine (plain l0 x1 s2 hl0 (fun x hx => ZipPureA.bytes_of_wf (hw0 x hx).2) (ZipPureA.bytes_of_wf hw1) W a0 c0 a1 c1 hr0 hc0 hn0 hr1 hc1).mono fun e W' ⟨he, bel⟩ => ?_
  subst he
  exact ⟨_, rfl, _, _, _, [], _, [], hW', trodAll_mk1 (shut_bool Try.underlying4 _), (trodAll_cons_mk (Below.trod laidOut (by kernel_rfl) (of_decide_eq_true (by kernel_rfl)) k0 bel lt0) (trodAll_cons_mk (Below.trod laidOut (by kernel_rfl) (of_decide_eq_true (by kernel_rfl)) k1 bel lt1) (trodAll_cons_mk (shut_string Try.underlying9 y2) trodAll_mk0))), rfl, bel.frame _, fun h => by cases h⟩
theorem over : Rows.zipMoreRow.holds Try.pinned (OpenSpec.ofChange Rows.zipMoreSpec) :=
  OpenClaim.holds_of_wide 8 Try.f8 rfl rfl rfl rfl rfl rfl rfl ⟨rfl, rfl, rfl, rfl, rfl⟩ rfl rfl rfl rfl rfl (by kernel_rfl) Try.func8 (by kernel_rfl)
    (of_decide_eq_true (by kernel_rfl)) (by unfold Func.isWrapper; first | (rw [if_pos (by decide +kernel)]; kernel_rfl) | (rw [if_neg (by decide +kernel)]; exact ⟨rfl, rfl⟩))
    (fun os started H enc _ => lifted os started H enc)
theorem proved : Rows.ZipMoreSaid := over
#print axioms proved
end Go.Proofs.Ytmpahimeljbliaa.zipMore
namespace Go.Proofs.Ytmpahimeljbliaa
/-- The row, under a short name, for the claim. -/
theorem zipMore_holds : Rows.ZipMoreSaid := zipMore.proved
end Go.Proofs.Ytmpahimeljbliaa
