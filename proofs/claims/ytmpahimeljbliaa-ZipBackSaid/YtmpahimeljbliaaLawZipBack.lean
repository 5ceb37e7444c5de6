/-
  Whatever can be read as data of a type is of the print's kind for that type: numbers, bools, texts, slices, structs. No condition beyond those that stand in each lemma.
-/
import Derived.Test.YtmpahimeljbliaaWWords
import Derived.Test.YtmpahimeljbliaaWMore
import Derived.Deep.Slices
import Derived.Deep.Fields
import Derived.ChangeSame
import Derived.Lib.SmallJoins
import Derived.Test.YtmpahimeljbliaaPx0
import Derived.SizedLaws
import Derived.Test.YtmpahimeljbliaaPx4
import Derived.Test.YtmpahimeljbliaaZipPureA
import Derived.Test.YtmpahimeljbliaaPx5
import Derived.Test.YtmpahimeljbliaaRows
import Derived.WalkKit
import Derived.ProofKit
import Derived.OpenShut
import Derived.ShutString
import Derived.ChangeOld
import Derived.Below
import Derived.HandedShaped
import Derived.Test.YtmpahimeljbliaaWSized
namespace Go.Proofs.Ytmpahimeljbliaa.Opens
open Go.RowKit Go.ChangeShapes Go.WideShapes Go.Deep Go.Proofs.YtmpahimeljbliaaW.PrintWords

/-- Every reading of type t is a value of kind d that meets Q. -/
def Opens {α : Type} (P : Program) (d : Kd α) (Q : α → Prop) (t : TypeId) : Prop :=
  P.cellsOf t = d.sz ∧ ∀ (H : Type) (enc : TypeId × Value → H) (w : World) (base : Nat) (spare : Nat → Bool) (held : Bool) (fuel : Nat) (cs : List Value) (x : DataW H × List MemPlace),
    DataW.trod enc P w base spare held fuel t cs = some x → ∃ v, d.K w v cs ∧ Q v

theorem opens_int {P : Program} {t : TypeId} {k : IntKind} (ht : P.underlying t = some (.int k)) (hc : P.cellsOf t = 1) : Opens P (Kd.int k) (fun n => (Lit.int k n).wf = true) t :=
  ⟨hc, fun _ _ _ _ _ _ _ _ _ h => by
    obtain ⟨n, e, _, hw⟩ := DataW.trod_int ht h
    exact ⟨n, e, hw⟩⟩
theorem opens_bool {P : Program} {t : TypeId} (ht : P.underlying t = some .bool) (hc : P.cellsOf t = 1) : Opens P Kd.bool (fun _ => True) t :=
  ⟨hc, fun _ _ _ _ _ _ _ _ _ h => by
    obtain ⟨b, e, _⟩ := DataW.trod_bool ht h
    exact ⟨b, e, trivial⟩⟩
theorem opens_string {P : Program} {t : TypeId} (ht : P.underlying t = some .string) (hc : P.cellsOf t = 1) : Opens P Kd.string (fun s => s.size ≤ maxLen) t :=
  ⟨hc, fun _ _ _ _ _ _ _ _ _ h => by
    obtain ⟨s, e, _, hs⟩ := DataW.trod_string ht h
    exact ⟨s, e, hs⟩⟩
theorem list_of {α : Type} {p : Nat → α → Prop} : ∀ (n : Nat), (∀ i, i < n → ∃ v, p i v) → ∃ xs : List α, xs.length = n ∧ ∀ j v, xs[j]? = some v → p j v
  | 0, _ => ⟨[], rfl, fun j v h => by simp at h⟩
  | n + 1, h => by
    obtain ⟨xs, hl, hx⟩ := list_of n (fun i hi => h i (by omega))
    obtain ⟨v, hv⟩ := h n (by omega)
    refine ⟨xs ++ [v], by simp [hl], fun j u hj => ?_⟩
    by_cases hjn : j < n
    · rw [List.getElem?_append_left (by omega)] at hj
      exact hx j u hj
    · rw [List.getElem?_append_right (by omega), hl] at hj
      cases hq : j - n with
      | zero =>
        rw [hq] at hj
        simp at hj
        obtain rfl : j = n := by omega
        rw [← hj]
        exact hv
      | succ m => rw [hq] at hj; simp at hj
theorem opens_slice {α : Type} {P : Program} {d : Kd α} {Q : α → Prop} {t e : TypeId} (ht : P.underlying t = some (.slice e)) (hc : P.cellsOf t = 1) (hd : Opens P d Q e) : Opens P (Kd.slice e d) (fun xs => ∀ x ∈ xs, Q x) t := by
  refine ⟨hc, fun H enc w base spare held fuel cs x h => ?_⟩
  obtain ⟨hz, ho⟩ := hd
  rcases open_slice ht h with ⟨e1, _⟩ | ⟨a, len, cap, m, n, D, Pl, e1, _, hl, hm, hmm, _, hi⟩
  · exact ⟨[], ⟨none, 0, e1, Nat.le_refl _, Kd.C_nil d w⟩, fun x hx => by simp at hx⟩
  · have hle : len ≤ m := by rw [hmm]; split <;> omega
    have hml : (maxLen : Nat) = 9223372036854775807 := rfl
    obtain ⟨xs, hxl, hx⟩ := list_of (p := fun i v => (∃ c, c.length = d.sz ∧ d.K w v c ∧ ∀ j u, c[j]? = some u → w.cell? (a.add (i * d.sz + j)) = some u) ∧ Q v) len (fun i hil => by
      obtain ⟨cs', hcs, ht'⟩ := hi i (by omega)
      obtain ⟨v, hk, hq⟩ := ho H enc w base spare held n cs' _ ht'
      obtain ⟨_, hlen, hat⟩ := World.cells?_some hcs
      rw [hz] at hlen hat
      refine ⟨v, ⟨cs', hlen, hk, fun j u hj => ?_⟩, hq⟩
      have hjl : j < d.sz := by rw [← hlen]; exact (List.getElem?_eq_some_iff.1 hj).1
      have := hat j hjl
      rw [← hj, ← this, Deep.add_add])
    refine ⟨xs, ⟨some a, cap, by rw [hxl]; exact e1, by omega, hxl ▸ ⟨hxl, by omega, fun _ => ⟨a, rfl, fun j p hj => (hx j p hj).1⟩⟩⟩, fun x hxm => ?_⟩
    obtain ⟨j, hj⟩ := List.getElem?_of_mem hxm
    exact (hx j x hj).2

/-- The same of fields in line, from a place on. -/
def OpensF {α : Type} (P : Program) (d : Kd α) (Q : α → Prop) (fs : List Field) (off : Nat) : Prop :=
  ∀ (H : Type) (enc : TypeId × Value → H) (w : World) (base : Nat) (spare : Nat → Bool) (held : Bool) (fuel : Nat) (cs : List Value),
    (∀ f ∈ fs, ∃ x, DataW.trod enc P w base spare held fuel f.type ((cs.drop f.offset).take (P.cellsOf f.type)) = some x) → ∃ v, d.K w v ((cs.drop off).take d.sz) ∧ Q v
theorem opensF_one {α : Type} {P : Program} {d : Kd α} {Q : α → Prop} {f : Field} {off : Nat} (ho : f.offset = off) (hd : Opens P d Q f.type) : OpensF P d Q [f] off := by
  intro H enc w base spare held fuel cs h
  obtain ⟨x, hx⟩ := h f (by simp)
  rw [ho, hd.1] at hx
  exact hd.2 H enc w base spare held fuel _ x hx
theorem opensF_cons {α β : Type} {P : Program} {d : Kd α} {d' : Kd β} {Q : α → Prop} {Q' : β → Prop} {f : Field} {r : List Field} {off off' : Nat} (ho : f.offset = off) (ho' : off + d.sz = off') (hd : Opens P d Q f.type) (hr : OpensF P d' Q' r off') :
    OpensF P (Kd.pair d d') (fun x => Q x.1 ∧ Q' x.2) (f :: r) off := by
  intro H enc w base spare held fuel cs h
  obtain ⟨x, hx⟩ := h f (by simp)
  rw [ho, hd.1] at hx
  obtain ⟨v, hv, hq⟩ := hd.2 H enc w base spare held fuel _ x hx
  obtain ⟨v', hv', hq'⟩ := hr H enc w base spare held fuel cs (fun g hg => h g (by simp [hg]))
  refine ⟨(v, v'), ⟨_, _, ?_, hv, hv'⟩, hq, hq'⟩
  show (cs.drop off).take (d.sz + d'.sz) = _
  rw [List.take_add, List.drop_drop, ho']
theorem opens_struct {α β : Type} {P : Program} {d : Kd α} {f : β → α} {g : α → β} {Q : α → Prop} {t : TypeId} {fs : Array Field} (ht : P.underlying t = some (.struct fs)) (hc : P.cellsOf t = d.sz) (hfg : ∀ x, f (g x) = x) (hd : OpensF P d Q fs.toList 0) :
    Opens P (Kd.iso d f) (fun x => Q (f x)) t := by
  refine ⟨hc, fun H enc w base spare held fuel cs x h => ?_⟩
  obtain ⟨xs, n, _, _, hl, hxl, hf⟩ := DataW.trod_struct ht h
  obtain ⟨v, hv, hq⟩ := hd H enc w base spare held n cs (fun fl hfl => by
    obtain ⟨i, hi⟩ := List.getElem?_of_mem hfl
    have hi' : fs[i]? = some fl := by simpa using hi
    have hlt : i < xs.length := by rw [hxl]; exact (Array.getElem?_eq_some_iff.1 hi').1
    exact ⟨xs[i], (hf i fl hi').trans (List.getElem?_eq_getElem hlt)⟩)
  rw [List.drop_zero, List.take_of_length_le (by omega)] at hv
  exact ⟨g v, by show d.K w (f (g v)) cs; rw [hfg]; exact hv, by show Q (f (g v)); rw [hfg]; exact hq⟩

/-- An argument that came in is of its kind. -/
theorem opens_arg {α : Type} {P : Program} {d : Kd α} {Q : α → Prop} {t : TypeId} (hd : Opens P d Q t) {H : Type} {enc : TypeId × Value → H} {w : World} {base : Nat} {spare : Nat → Bool} {held : Bool} {v : Value} {x : DataW H} {p : List MemPlace}
    (h : DataW.Trod enc P w base spare held t v x p) : ∃ y, d.K w y v.cells.toList ∧ Q y := by
  obtain ⟨fuel, hf⟩ := h
  exact hd.2 H enc w base spare held fuel v.cells.toList _ hf

end Go.Proofs.Ytmpahimeljbliaa.Opens
namespace Go.Proofs.Ytmpahimeljbliaa.ZipOpens
open Go.RowKit Go.Proofs Go.ChangeShapes Go.WideShapes Go.Deep Go.Proofs.YtmpahimeljbliaaW.PrintWords Go.Proofs.Ytmpahimeljbliaa.P Go.Proofs.Ytmpahimeljbliaa.Opens

theorem o5 : Opens Try.prog (Kd.int .u8) (fun n => (Lit.int .u8 n).wf = true) 5 := opens_int Try.underlying5 (by kernel_rfl)
theorem o9 : Opens Try.prog Kd.string (fun s => s.size ≤ maxLen) 9 := opens_string Try.underlying9 (by kernel_rfl)
theorem o22 : Opens Try.prog (Kd.slice 5 (Kd.int .u8)) (fun xs => ∀ x ∈ xs, (Lit.int .u8 x).wf = true) 22 := opens_slice Try.underlying22 (by kernel_rfl) o5
theorem o50 : Opens Try.prog k50 (fun x => x.f0.size ≤ maxLen ∧ ∀ n ∈ x.f1, (Lit.int .u8 n).wf = true) 50 :=
  opens_struct (β := S50) (f := fun x => (x.f0, x.f1)) (g := fun x => ⟨x.1, x.2⟩) Try.underlying50 (by kernel_rfl) (fun _ => rfl) (opensF_cons rfl rfl o9 (opensF_one rfl o22))
theorem o41 : Opens Try.prog (Kd.slice 50 k50) (fun xs => ∀ x ∈ xs, x.f0.size ≤ maxLen ∧ ∀ n ∈ x.f1, (Lit.int .u8 n).wf = true) 41 := opens_slice Try.underlying41 (by kernel_rfl) o50

set_option maxRecDepth 100000 in
theorem open_files {H : Type} {enc : TypeId × Value → H} {W : World} {r : Reach} {b0 base : Nat} {spare : Nat → Bool} {held : Bool} {v : Value} {d : DataW H} {p : List MemPlace} {ts : List TypeId} {ds : List (DataW H)} {j : Nat}
    (hsz : (DataW.weightsEach Try.prog ts ds).all (· ≤ reachBytes) = true) (htj : ts[j]? = some 41) (hdj : ds[j]? = some d)
    (hv : Value.okWide Try.prog W r b0 41 v) (h : DataW.Trod enc Try.prog W base spare held 41 v d p) :
    ∃ (A : Option Addr) (c : Nat) (l : List S50), v = .slice A l.length c ∧ l.length ≤ c ∧ k50.C W A l.length l ∧ l.length ≤ 140737488355328 ∧ ∀ x ∈ l, x.f0.size ≤ maxLen ∧ ∀ n ∈ x.f1, (Lit.int .u8 n).wf = true := by
  obtain ⟨a0, len0, cap0, rfl⟩ := okWide_slice Try.underlying41 hv
  have hx := opens_arg o41 h
  obtain ⟨l, hx, hq⟩ := hx
  obtain ⟨A, c, e1, hc, hC⟩ := hx
  simp [Value.cells] at e1
  obtain ⟨rfl, rfl, rfl⟩ := e1
  refine ⟨_, _, l, rfl, hc, hC, ?_, hq⟩
  obtain ⟨fuel, hf⟩ := h
  rcases open_slice Try.underlying41 hf with ⟨e1, _⟩ | ⟨a, len, cap, m, n, D, Pl, e1, _, hl, hm, hmm, e2, hi⟩
  · simp [Value.cells] at e1
    omega
  · simp [Value.cells] at e1
    obtain ⟨rfl, rfl, rfl⟩ := e1
    obtain ⟨rfl, -⟩ := Prod.mk.inj e2
    have := sized_slice hsz htj hdj Try.underlying41
    rw [List.length_map, List.length_range, show Try.prog.bytesOf 50 = 40 from by kernel_rfl] at this
    have hr : reachBytes = 140737488351232 := rfl
    omega
end Go.Proofs.Ytmpahimeljbliaa.ZipOpens
namespace Go.Proofs.Ytmpahimeljbliaa.ZipGreat
open Go.RowKit Go.Proofs Go.Proofs.Ytmpahimeljbliaa.P Go.Proofs.YtmpahimeljbliaaW.PrintWords Go.Proofs.YtmpahimeljbliaaW.PrintLast

/-- What is known of the files when not so much is asked. -/
def Small (l : List S50) (j : Nat) : Prop := l.length ≤ 300 ∧ ∀ x ∈ l.drop j, x.f1.length ≤ 524288 ∧ x.f0.size ≤ 1000
theorem rd_at (l : List S50) (j : Nat) (hj : j < l.length) : rd_T50 l (j : Int) = l[j] := by
  unfold rd_T50
  rw [Int.toNat_natCast, List.getD_eq_getElem?_getD, List.getElem?_eq_getElem hj]
  rfl
theorem great_l0 (l : List S50) (hlen : l.length ≤ 140737488355328) : ∀ (d j k : Nat) (s : Int), j + d = l.length → 3 * d + 6 < k → 0 ≤ s → s ≤ 1048576 → ∃ b, messuagelaw07_great.l0 k l s j = some b ∧ (b = false → Small l j)
  | 0, j, k, s, hj, hk, h0, h1 => by
    obtain ⟨k, rfl⟩ : ∃ m, k = m + 1 + 1 := ⟨k - 2, by omega⟩
    rw [messuagelaw07_great.l0, if_neg (by omega), messuagelaw07_great.j1, if_neg (by decide)]
    refine ⟨_, rfl, fun hb => ⟨?_, ?_⟩⟩
    · have := of_decide_eq_false hb
      omega
    · rw [List.drop_of_length_le (by omega)]
      intro x hx
      cases hx
  | d + 1, j, k, s, hj, hk, h0, h1 => by
    obtain ⟨k, rfl⟩ : ∃ m, k = m + 1 + 1 + 1 := ⟨k - 3, by omega⟩
    have c1 : (j : Int) < (l.length : Int) := by omega
    have c0 : (0 : Int) ≤ (j : Int) := by omega
    have hjl : j < l.length := by omega
    have hx := rd_at l j hjl
    rw [messuagelaw07_great.l0, if_pos c1, messuagelaw07_great.j1, hx]
    by_cases h3 : (j : Int) < 300
    · rw [if_pos (decide_eq_true h3), if_pos c0, if_pos c1]
      by_cases h5 : (l[j].f1.length : Int) > 524288
      · rw [if_pos h5, messuagelaw07_great.j2, if_pos rfl]
        exact ⟨_, rfl, fun h => by cases h⟩
      · rw [if_neg h5, messuagelaw07_great.j2, hx]
        by_cases h6 : (l[j].f0.size : Int) > 1000
        · rw [if_pos (decide_eq_true h6)]
          exact ⟨_, rfl, fun h => by cases h⟩
        · rw [if_neg (by simpa using h6), if_pos c0, if_pos c1]
          have ih := fun s h0 h1 => great_l0 l hlen d (j + 1) k s (by omega) (by omega) h0 h1
          have hb : 0 ≤ s + (l[j].f1.length : Int) ∧ s + (l[j].f1.length : Int) ≤ 2000000 := by omega
          have e1 : wrap64 (s + (l[j].f1.length : Int)) = s + (l[j].f1.length : Int) := ZipNumP.w64i _ (by omega) (by omega)
          have e2 : wrap64 ((j : Int) + 1) = ((j + 1 : Nat) : Int) := by rw [ZipNumP.w64i _ (by omega) (by omega)]; omega
          rw [e1, e2]
          by_cases h7 : s + (l[j].f1.length : Int) > 1048576
          · rw [if_pos h7]
            exact ⟨_, rfl, fun h => by cases h⟩
          · rw [if_neg h7]
            obtain ⟨b, hb1, hb2⟩ := ih _ hb.1 (Int.not_lt.1 h7)
            refine ⟨b, hb1, fun hf => ⟨(hb2 hf).1, ?_⟩⟩
            rw [List.drop_eq_getElem_cons hjl]
            intro x hxm
            rcases List.mem_cons.1 hxm with rfl | hxm
            · clear e1 e2; omega
            · exact (hb2 hf).2 x hxm
    · rw [if_neg (by simpa using h3)]
      have : decide ((l.length : Int) > 300) = true := decide_eq_true (by omega)
      rw [this]
      exact ⟨_, rfl, fun h => by cases h⟩
theorem great_f (l : List S50) (hlen : l.length ≤ 140737488355328) (k : Nat) (hk : 3 * l.length + 6 < k) : ∃ b, messuagelaw07_great.f k l = some b ∧ (b = false → l.length ≤ 300 ∧ ∀ x ∈ l, x.f1.length ≤ 524288 ∧ x.f0.size ≤ 1000) := by
  obtain ⟨b, h1, h2⟩ := great_l0 l hlen l.length 0 k 0 (by omega) hk (by omega) (by omega)
  exact ⟨b, h1, fun h => h2 h⟩
end Go.Proofs.Ytmpahimeljbliaa.ZipGreat
namespace Go.Proofs.Ytmpahimeljbliaa.Pure
open Go.RowKit Go.Proofs.Ytmpahimeljbliaa.P Go.Proofs.YtmpahimeljbliaaW.PrintWords Go.Proofs.YtmpahimeljbliaaW.PrintLast
open ZipPureA ZipNumP
open ZipPure (F Ent entAt listOf findOf firstNamed placeOf makeOf partsOf entsFrom rowOf Bytes putBytes localOf centralOf)

theorem bytes_app {a b : List Int} (ha : Bytes a) (hb : Bytes b) : Bytes (a ++ b) := fun x hx => (List.mem_append.1 hx).elim (ha x) (hb x)
theorem bytes_row : ∀ r : List (Int × Nat), Bytes (rowOf r)
  | [] => fun x hx => by cases hx
  | (n, k) :: r => bytes_app (ZipPure.putBytes_bytes k n) (bytes_row r)
theorem bytes_rep (n : Nat) : Bytes (List.replicate n 0) := fun x hx => by rw [List.eq_of_mem_replicate hx]; omega
theorem bytes_parts : ∀ (l : List F) (b c : List Int), (∀ f ∈ l, Bytes f.1 ∧ Bytes f.2) → Bytes b → Bytes c → Bytes (partsOf l b c).1.1 ∧ Bytes (partsOf l b c).1.2
  | [], b, c, _, hb, hc => ⟨hb, hc⟩
  | f :: r, b, c, hf, hb, hc => by
    have h1 := hf f List.mem_cons_self
    have hn : Bytes ([] : List Int) := fun x hx => by cases hx
    rw [partsOf]
    split
    · exact ⟨hn, hn⟩
    · split
      · exact ⟨hn, hn⟩
      · simp only []
        split
        · exact ⟨hn, hn⟩
        · exact bytes_parts r _ _ (fun g hg => hf g (List.mem_cons_of_mem _ hg)) (bytes_app hb (bytes_app (bytes_row _) (bytes_app h1.1 (bytes_app (bytes_rep _) h1.2)))) (bytes_app hc (bytes_app (bytes_row _) h1.1))
theorem bytes_made (l : List F) (hf : ∀ f ∈ l, Bytes f.1 ∧ Bytes f.2) : Bytes (makeOf l).1 := by
  have hn : Bytes ([] : List Int) := fun x hx => by cases hx
  have := bytes_parts l [] [] hf hn hn
  unfold makeOf
  split
  · exact hn
  · simp only []
    split
    · exact hn
    · exact bytes_app this.1 (bytes_app this.2 (bytes_row _))
theorem bytes_str (s : ByteArray) : Bytes (bytesOf s) := fun x hx => by
  unfold bytesOf at hx
  obtain ⟨b, -, rfl⟩ := List.mem_map.1 hx
  have := b.toNat_lt
  omega
theorem str_of_bytes (s : ByteArray) : (strOfNums (bytesOf s)).toList = s.toList := (str_name (bytes_str s) s).2 rfl
theorem str_iff (s t : ByteArray) : s.toList = t.toList ↔ bytesOf s = bytesOf t := by
  rw [← str_of_bytes s]
  exact str_name (bytes_str s) t
def fl (l : List S50) : List F := l.map fun x => (bytesOf x.f0, x.f1)

/-- What is asked of the file in turn, when the first one of its name is found. -/
theorem back_l1 (l : List S50) (h3 : l.length ≤ 300) (hd : ∀ x ∈ l, ZipPure.Bytes x.f1) (a : List Int) (ha : makeOf (fl l) = (a, 0)) (hb : Bytes a) (hal : a.length ≤ 262144) (x5 : List S32) (hx5 : x5.length = l.length)
    (hnm : ∀ i (h : i < l.length), (rd_T32 x5 (i : Int)).f0.toList = l[i].f0.toList) (i : Nat) (hi : i < l.length) (K : Nat) (hK : 65600 < K) (hnext : ∀ k, K ≤ k → messuagelaw07_ZipBack.l0 k l a x5 (wrap64 ((i : Int) + 1)) = some true) :
    ∀ (d m k : Nat) (hm : m < l.length), K + d + 1 ≤ k → d ≤ i + 1 → l[m].f0.toList = l[i].f0.toList → (∀ j (h : j < l.length), d ≤ j → j < m → l[j].f0.toList ≠ l[i].f0.toList) →
      messuagelaw07_ZipBack.l1 k l a x5 i m ((d : Int) - 1) = some true
  | 0, m, k, hm, hk, hdi, hs, hf => by
    obtain ⟨k, rfl⟩ : ∃ q, k = q + 1 := ⟨k - 1, by omega⟩
    have hfm : (fl l)[m]? = some (bytesOf l[m].f0, l[m].f1) := by
      unfold fl
      rw [List.getElem?_map, List.getElem?_eq_getElem hm]
      rfl
    obtain ⟨at_, h1, h2, h4, h5⟩ := ZipPure.made_back (fl l) a ha m _ hfm (fun j g hj hg => by
      have hjl : j < l.length := by omega
      have : g = (bytesOf l[j].f0, l[j].f1) := by
        unfold fl at hg
        rw [List.getElem?_map, List.getElem?_eq_getElem hjl] at hg
        exact (Option.some.inj hg).symm
      rw [this]
      intro he
      exact hf j hjl (by omega) hj ((str_iff _ _).2 (he.trans ((str_iff _ _).1 hs))))
    have hname : bytesOf l[m].f0 = bytesOf l[i].f0 := (str_iff _ _).1 hs
    simp only [] at h1 h4 h5
    rw [hname] at h1
    have hl5 : (l[m].f1.length : Int) ≤ 262144 := by omega
    have e0 := find_f a hb (by omega) l[i].f0 k (by omega)
    rw [h1] at e0
    have e1 : Int.tmod (at_ : Int) 256 = 0 := by rw [Int.tmod_eq_emod_of_nonneg (by omega)]; omega
    have e2 : IntKind.u64.wrap (a.length : Int) = (a.length : Int) := w64 _ (by omega) (by omega)
    have e3 : IntKind.u64.wrap ((a.length : Int) - (at_ : Int)) = (a.length : Int) - (at_ : Int) := w64 _ (by omega) (by omega)
    have e4 : IntKind.u64.wrap (l[m].f1.length : Int) = (l[m].f1.length : Int) := w64 _ (by omega) (by omega)
    have e5 : IntKind.u64.wrap ((at_ : Int) + (l[m].f1.length : Int)) = (at_ : Int) + (l[m].f1.length : Int) := w64 _ (by omega) (by omega)
    have e6 : (a.take ((at_ : Int) + (l[m].f1.length : Int)).toNat).drop (at_ : Int).toNat = l[m].f1 := by
      rw [show ((at_ : Int) + (l[m].f1.length : Int)).toNat = at_ + l[m].f1.length from by omega, Int.toNat_natCast, List.drop_take, Nat.add_sub_cancel_left]
      exact h5
    rw [messuagelaw07_ZipBack.l1, if_neg (by omega), if_pos (by omega), if_pos (by omega), ZipGreat.rd_at l i hi, e0, Option.bind_some]
    simp only [ZipGreat.rd_at l m hm, e2, e3, e4, e5, e6]
    rw [if_pos (by omega), if_pos (hnm i hi), if_pos trivial, if_pos e1, if_pos (by omega), if_pos (by omega), if_pos trivial, if_neg (by omega), if_neg (by omega), if_pos (by omega), if_pos (by omega), if_pos (by omega), if_pos trivial]
    exact hnext k (by omega)
  | d + 1, m, k, hm, hk, hdi, hs, hf => by
    obtain ⟨k, rfl⟩ : ∃ q, k = q + 1 := ⟨k - 1, by omega⟩
    have hdl : d < l.length := by omega
    have e0 : (((d + 1 : Nat) : Int) - 1) = (d : Int) := by omega
    have e1 : wrap64 ((d : Int) - 1) = (d : Int) - 1 := IntWalk.wrap64_in _ ⟨by omega, by omega⟩
    have c0 : (0 : Int) ≤ (d : Int) := by omega
    rw [e0, messuagelaw07_ZipBack.l1, if_pos c0, if_pos c0, if_pos (by omega), if_pos (by omega), if_pos (by omega), ZipGreat.rd_at l i hi, ZipGreat.rd_at l d hdl, e1]
    by_cases hn : l[d].f0.toList = l[i].f0.toList
    · rw [if_pos hn]
      exact back_l1 l h3 hd a ha hb hal x5 hx5 hnm i hi K hK hnext d d k hdl (by omega) (by omega) hn (fun j h h1 h2 => by omega)
    · rw [if_neg hn]
      refine back_l1 l h3 hd a ha hb hal x5 hx5 hnm i hi K hK hnext d m k hm (by omega) (by omega) hs (fun j h h1 h2 => ?_)
      by_cases hjd : j = d
      · subst hjd; exact hn
      · exact hf j h (by omega) h2
theorem back_l0 (l : List S50) (h3 : l.length ≤ 300) (hd : ∀ x ∈ l, ZipPure.Bytes x.f1) (a : List Int) (ha : makeOf (fl l) = (a, 0)) (hb : Bytes a) (hal : a.length ≤ 262144) (x5 : List S32) (hx5 : x5.length = l.length)
    (hnm : ∀ i (h : i < l.length), (rd_T32 x5 (i : Int)).f0.toList = l[i].f0.toList) : ∀ (d i k : Nat), i + d = l.length → 66000 + 400 * d ≤ k → messuagelaw07_ZipBack.l0 k l a x5 i = some true
  | 0, i, k, hi, hk => by
    obtain ⟨k, rfl⟩ : ∃ q, k = q + 1 := ⟨k - 1, by omega⟩
    rw [messuagelaw07_ZipBack.l0, if_neg (by omega)]
    rfl
  | d + 1, i, k, hi, hk => by
    obtain ⟨k, rfl⟩ : ∃ q, k = q + 1 := ⟨k - 1, by omega⟩
    have hil : i < l.length := by omega
    have e1 : wrap64 ((i : Int) + 1) = ((i + 1 : Nat) : Int) := by rw [w64i _ (by omega) (by omega)]; omega
    have ih := fun k hk => back_l0 l h3 hd a ha hb hal x5 hx5 hnm d (i + 1) k (by omega) hk
    rw [messuagelaw07_ZipBack.l0, if_pos (by omega)]
    have := back_l1 l h3 hd a ha hb hal x5 hx5 hnm i hil (66000 + 400 * d) (by omega) (fun k hk => by rw [e1]; exact ih k hk) (i + 1) i k hil (by omega) (by omega) rfl (fun j h h1 h2 => by omega)
    rw [show (((i + 1 : Nat) : Int) - 1) = (i : Int) from by omega] at this
    exact this
theorem ZipBack (l : List S50) (hlen : l.length ≤ 140737488355328) (hd : ∀ x ∈ l, ZipPure.Bytes x.f1) : ∃ k, messuagelaw07_ZipBack.f k l = some true := by
  refine ⟨3 * l.length + 200000, ?_⟩
  obtain ⟨b, hg, hs⟩ := ZipGreat.great_f l hlen (3 * l.length + 200000) (by omega)
  unfold messuagelaw07_ZipBack.f
  rw [hg, Option.bind_some]
  cases b with
  | true => rw [if_pos rfl]
  | false =>
    obtain ⟨h3, -⟩ := hs rfl
    have hfb : ∀ f ∈ fl l, Bytes f.1 ∧ Bytes f.2 := fun f hf => by
      unfold fl at hf
      obtain ⟨x, hx, rfl⟩ := List.mem_map.1 hf
      exact ⟨bytes_str _, hd x hx⟩
    have hmk : zip_Make.f l = some (makeOf (fl l)) := by
      rw [zip_Make.f, if_pos hlen]
      rfl
    have hbm := bytes_made (fl l) hfb
    rw [if_neg (by decide), hmk, Option.bind_some]
    by_cases he : (makeOf (fl l)).2 = 0
    · have ha : makeOf (fl l) = ((makeOf (fl l)).1, 0) := Prod.ext rfl he
      obtain ⟨B, C, hp, hab, hli, hal⟩ := ZipPure.make_lists (fl l) _ ha
      have hres : ZipWalk.listRes (makeOf (fl l)).1 = ((entsFrom (fl l) 0).map ZipWalk.eOf, (B.length : Int), 0) := by
        unfold ZipWalk.listRes
        rw [hli]
      have hlist : zip_List.f (makeOf (fl l)).1 = some (((entsFrom (fl l) 0).map ZipWalk.eOf).map zip_list.conv, 0) := by
        rw [zip_List.f, list_some _ hbm (by omega), Option.bind_some, hres]
      have hfl : (fl l).length = l.length := by unfold fl; rw [List.length_map]
      have hel : (entsFrom (fl l) 0).length = l.length := by rw [ZipPure.ents_len, hfl]
      rw [if_pos he, hlist, Option.bind_some, if_pos rfl]
      simp only []
      have hlen5 : (((entsFrom (fl l) 0).map ZipWalk.eOf).map zip_list.conv).length = l.length := by rw [List.length_map, List.length_map, hel]
      rw [hlen5, bne_self_eq_false, show 3 * l.length + 200000 = (3 * l.length + 199999) + 1 from rfl, messuagelaw07_ZipBack.j0, if_neg (by decide)]
      refine back_l0 l h3 hd _ ha hbm hal _ hlen5 (fun i h => ?_) l.length 0 _ (by omega) (by omega)
      have hir : i < ((entsFrom (fl l) 0).map ZipWalk.eOf).length := by rw [List.length_map, hel]; exact h
      rw [rd_map _ i hir, List.getElem_map]
      obtain ⟨f, hf, hn, -⟩ := ZipPure.ents_at (fl l) 0 i _ (List.getElem?_eq_getElem (by rw [hel]; exact h))
      have hf2 : f = (bytesOf l[i].f0, l[i].f1) := by
        unfold fl at hf
        rw [List.getElem?_map, List.getElem?_eq_getElem h] at hf
        exact (Option.some.inj hf).symm
      show (strOfNums (entsFrom (fl l) 0)[i].name).toList = _
      rw [hn, hf2]
      exact str_of_bytes _
    · have h0 : (makeOf (fl l)).1 = [] := by
        unfold makeOf at he ⊢
        split
        · rfl
        · rename_i hc
          rw [if_neg hc] at he
          simp only [] at he ⊢
          split
          · rfl
          · rename_i hc2
            rw [if_neg hc2] at he
            exact absurd rfl he
      rw [if_neg he, h0, if_pos (by decide)]
      rfl
end Go.Proofs.Ytmpahimeljbliaa.Pure
namespace Go.Proofs.Ytmpahimeljbliaa.zipBack
open Go.ChangeShapes Go.WideShapes Go.ChangeAt Go.RowKit
open Go.ChangeMaps (open_string shut_string)
set_option linter.unusedVariables false
theorem own : ownKnob Try.prog.godebug = none := by kernel_rfl
theorem laidOut : laidOutB Try.prog = true := by kernel_rfl
set_option maxRecDepth 100000 in
theorem lifted (os : Os) (started : os.Started) (H : Type) (enc : TypeId × Value → H) :
    ReturnsInHanded {} Try.checked os 6 .any (Rows.zipBackSpec.pre6 enc Try.prog Try.f6 Rows.zipBackRow.domain false) (Rows.zipBackSpec.post enc Try.prog Try.f6 false true false false) := by
  refine returnsInHanded_of_change_sized (C := Try.checked) own started (by kernel_rfl) Try.func6
    (ChangeSpec.witness6 (enc := enc) (C := Try.checked) false ⟨#[], #[.slice none 0 0], []⟩ 8 (by kernel_rfl) (by kernel_rfl) (by kernel_rfl) (by kernel_rfl)) ?_
  intro W base args ds gs before hval0 hW hcnd hsz0 _
  have hsz : (DataW.weightsEach Try.prog (Try.f6.params.toList ++ Rows.zipBackSpec.plain.varTypes Try.prog) (ds ++ gs)).all (· ≤ reachBytes) = true := hsz0
  have hval : ∀ (j : Nat) t v, Try.f6.params[j]? = some t → args[j]? = some v → Value.okWide Try.prog W .any base t v := hval0
  have hW' := hW
  obtain ⟨p, q, hA0, hV, rfl, hfz, hnd⟩ := hW
  have hA : DataW.TrodAll enc Try.prog W 0 (fun _ => true) true Try.f6.params.toList args.toList ds p := hA0
  rw [Try.params6] at hA hval hsz
  obtain ⟨v0, vs0, d0, ds0, p0, q0, hargs, rfl, rfl, h0, r0⟩ := trodAll_cons hA
  obtain ⟨rfl, rfl, rfl⟩ := trodAll_nil r0
  obtain rfl : args = #[v0] := by cases args; simp_all
  obtain ⟨rfl, rfl⟩ := trodVars_none hV
  have k0 := h0
  have lt0 : ∀ x ∈ p0, x.block < W.heap.size := by obtain ⟨m, hm⟩ := k0; exact DataW.trod_lt m _ _ _ hm
  obtain ⟨a0, c0, l0, rfl, hc0, hr0, hl0, hw0⟩ := ZipOpens.open_files hsz (j := 0) rfl rfl (hval 0 41 v0 rfl rfl) h0
  clear hA0 hval0 hsz0 hsz
  obtain ⟨k, hk⟩ := Pure.ZipBack l0 hl0 (fun x hx => ZipPureA.bytes_of_wf (hw0 x hx).2)
  refine (P.messuagelaw07_ZipBack.calls k a0 c0 l0 true W hr0 hc0 hk).mono fun e W' ⟨he, bel⟩ => ?_
  subst he
  exact ⟨_, rfl, _, _, _, [], _, [], hW', trodAll_mk1 (shut_bool Try.underlying4 _), (trodAll_cons_mk (Below.trod laidOut (by kernel_rfl) (of_decide_eq_true (by kernel_rfl)) k0 bel lt0) trodAll_mk0), rfl, bel.frame _, fun h => by cases h⟩
theorem over : Rows.zipBackRow.holds Try.pinned (OpenSpec.ofChange Rows.zipBackSpec) :=
  OpenClaim.holds_of_wide 6 Try.f6 rfl rfl rfl rfl rfl rfl rfl ⟨rfl, rfl, rfl, rfl, rfl⟩ rfl rfl rfl rfl rfl (by kernel_rfl) Try.func6 (by kernel_rfl)
    (of_decide_eq_true (by kernel_rfl)) (by unfold Func.isWrapper; first | (rw [if_pos (by decide +kernel)]; kernel_rfl) | (rw [if_neg (by decide +kernel)]; exact ⟨rfl, rfl⟩))
    (fun os started H enc _ => lifted os started H enc)
theorem proved : Rows.ZipBackSaid := over
#print axioms proved
end Go.Proofs.Ytmpahimeljbliaa.zipBack
namespace Go.Proofs.Ytmpahimeljbliaa
/-- The row, under a short name, for the claim. -/
theorem zipBack_holds : Rows.ZipBackSaid := zipBack.proved
end Go.Proofs.Ytmpahimeljbliaa
