/- How an address space lies in memory: whose each block is, what it holds. No condition beyond those of each lemma. -/
import Derived.Test.YtmpahimeljbliaaProg
import Derived.Test.YtmpahimeljbliaaWWords
import Derived.Test.YtmpahimeljbliaaVmPure
namespace Go.Proofs.Ytmpahimeljbliaa.Vm
open Go.RowKit Go.Proofs Go.Proofs.YtmpahimeljbliaaW.PrintWords

inductive Role where
  | space
  | rooms
  | room (at_ : Nat)
  | arr (at_ : Nat)
  | page (at_ : Nat)
  deriving DecidableEq
def ptrR (r : Rm) : Value := .pointer (some ⟨r.b, 0, none⟩)
def ptrP : Option Pg → Value
  | none => .pointer none
  | some p => .pointer (some ⟨p.b, 0, none⟩)
def cellsP (p : Pg) : Array Value := (.int .u64 p.at_ :: .int .i64 p.prot :: p.data.map (.int .u8)).toArray
def cellsR (r : Rm) : Array Value := #[.int .u64 r.at_, .slice (some ⟨r.ab, 0, none⟩) r.ps.length r.ps.length]
def cellsA (r : Rm) : Array Value := (r.ps.map ptrP).toArray
def cellsS (s : Sp) (v : Value) : Array Value := #[.int .i64 s.budget, .int .i64 s.used, v]
def Blk (w : World) (b : Nat) (cs : Array Value) (t : TypeId) : Prop := w.heap[b]? = some (.cells cs t (0, 0))
/-- The row of a space's rooms: the space's own, or cut to what it holds. -/
def Row (w : World) (base : Nat) (v : Value) (n : Nat) (xs : List Value) : Prop :=
  w.ownsRow base 122 1 v n xs ∨ ∃ (g : Nat) (cur : List Value), v = .slice (some ⟨g, 0, none⟩) n n ∧ base ≤ g ∧ w.heap[g]? = some (.cells cur.toArray 122 (0, 0)) ∧ n ≤ cur.length ∧ n ≤ maxLen ∧ cur.take n = xs
theorem Row.move {w w1 : World} {base n : Nat} {v : Value} {xs : List Value} (h : Row w base v n xs) (hm : ∀ k, v.ownBlock = some k → w1.heap[k]? = w.heap[k]?) : Row w1 base v n xs := by
  rcases h with h | ⟨g, cur, hv, h1, h2, h3⟩
  · exact .inl (own_move h hm)
  · exact .inr ⟨g, cur, hv, h1, (hm g (by rw [hv]; rfl)).trans h2, h3⟩
theorem Row.slice {w : World} {base n : Nat} {v : Value} {xs : List Value} (h : Row w base v n xs) : ∃ A c, v = .slice A n c ∧ n ≤ c := by
  rcases h with h | ⟨g, cur, hv, h1, h2, h3⟩
  · obtain ⟨A, c, rfl⟩ := own_slice h
    exact ⟨A, c, rfl, own_le h⟩
  · exact ⟨_, _, hv, Nat.le_refl _⟩
/-- What is known of a row that is not empty. -/
theorem Row.open_ {w : World} {base n : Nat} {v : Value} {xs : List Value} (h : Row w base v n xs) (hn : 0 < n) : ∃ (g c : Nat) (cur : List Value), v = .slice (some ⟨g, 0, none⟩) n c ∧ base ≤ g ∧ w.heap[g]? = some (.cells cur.toArray 122 (0, 0)) ∧ n ≤ c ∧ c ≤ cur.length ∧ c ≤ maxLen ∧ cur.take n = xs := by
  rcases h with ⟨h1, ⟨_, h2⟩ | ⟨g, cap, cur, hv, hg, hh, h3, h4, h5, h6⟩⟩ | ⟨g, cur, hv, h1, h2, h3, h4, h5⟩
  · omega
  · exact ⟨g, cap, cur.toList, hv, hg, by simpa using hh, h3, by simp [h5], h4, by simpa using h6⟩
  · exact ⟨g, n, cur, hv, h1, h2, Nat.le_refl _, h3, h4, h5⟩
theorem Row.cell {w : World} {base n : Nat} {v : Value} {xs : List Value} (h : Row w base v n xs) {i : Nat} {u : Value} (hu : xs[i]? = some u) : ∃ ad c, v = .slice (some ad) n c ∧ w.cell? (ad.add i) = some u := by
  have hx : xs.length = n := by
    rcases h with h | ⟨g, cur, hv, h1, h2, h3, h4, h5⟩
    · simpa using h.1
    · rw [← h5, List.length_take]; omega
  have hi := (List.getElem?_eq_some_iff.1 hu).1
  obtain ⟨g, c, cur, hv, _, hh, _, h4, _, h6⟩ := h.open_ (by omega)
  refine ⟨_, c, hv, ?_⟩
  rw [add_plain]
  have hc : cur[i]? = some u := by rw [← h6, List.getElem?_take_of_lt (by omega)] at hu; exact hu
  simp [World.cell?, hh, hc]
/-- The space s at block a, its rooms in the row v; own: whose each block is. -/
structure Holds (w : World) (own : Nat → Option Role) (base a : Nat) (v : Value) (s : Sp) : Prop where
  sp : Blk w a (cellsS s v) 113
  osp : own a = some .space
  row : Row w base v s.rs.length (s.rs.map ptrR)
  orow : ∀ k, v.ownBlock = some k → own k = some .rooms
  rb : ∀ (i : Nat) (r : Rm), s.rs[i]? = some r → Blk w r.b (cellsR r) 125 ∧ own r.b = some (.room r.at_)
  ra : ∀ (i : Nat) (r : Rm), s.rs[i]? = some r → Blk w r.ab (cellsA r) 126 ∧ own r.ab = some (.arr r.at_)
  pg : ∀ (i : Nat) (r : Rm), s.rs[i]? = some r → ∀ (k : Nat) (p : Pg), r.ps[k]? = some (some p) → Blk w p.b (cellsP p) 90 ∧ own p.b = some (.page p.at_)
  lt : ∀ k, own k ≠ none → base ≤ k ∧ k < w.heap.size
  good : s.Good
theorem Blk.cell {w : World} {b : Nat} {cs : Array Value} {t : TypeId} (h : Blk w b cs t) (j : Nat) (v : Value) (hv : cs[j]? = some v) : w.cell? ⟨b, j, none⟩ = some v := by
  have : w.heap[b]? = some (.cells cs t (0, 0)) := h
  simp [World.cell?, this, hv]
theorem Blk.free {w : World} {b : Nat} {cs : Array Value} {t : TypeId} (h : Blk w b cs t) (j : Nat) : w.frozen? ⟨b, j, none⟩ = false := by
  have : w.heap[b]? = some (.cells cs t (0, 0)) := h
  simp [World.frozen?, this]
theorem Blk.lt {w : World} {b : Nat} {cs : Array Value} {t : TypeId} (h : Blk w b cs t) : b < w.heap.size := (Array.getElem?_eq_some_iff.1 h).1
theorem Blk.set {w : World} {b : Nat} {cs : Array Value} {t : TypeId} (h : Blk w b cs t) (j : Nat) (v : Value) : Blk (w.setCell ⟨b, j, none⟩ v) b (cs.setIfInBounds j v) t := by
  have h1 : w.heap[b]? = some (.cells cs t (0, 0)) := h
  unfold Blk World.setCell
  rw [Array.getElem?_modify, if_pos rfl, h1]
  rfl
theorem Blk.far {w : World} {b g : Nat} {cs : Array Value} {t : TypeId} (h : Blk w b cs t) (j : Nat) (v : Value) (hne : g ≠ b) : Blk (w.setCell ⟨g, j, none⟩ v) b cs t := by
  have h1 : w.heap[b]? = some (.cells cs t (0, 0)) := h
  unfold Blk World.setCell
  rw [Array.getElem?_modify, if_neg hne]
  exact h1
theorem Blk.move {w w' : World} {b : Nat} {cs : Array Value} {t : TypeId} (h : Blk w b cs t) (hk : w'.heap[b]? = w.heap[b]?) : Blk w' b cs t := hk.trans h
/-- The world w' is w but for blocks that own tells. -/
def Keeps (w w' : World) (own : Nat → Option Role) : Prop := w.heap.size ≤ w'.heap.size ∧ ∀ k, k < w.heap.size → own k = none → w'.heap[k]? = w.heap[k]?

section
variable {w : World} {own : Nat → Option Role} {base a : Nat} {v : Value} {s : Sp}
theorem Holds.drewN (h : Holds w own base a v s) (n : Nat) : Holds (w.drewN n) own base a v s := by
  have e : ∀ k : Nat, (w.drewN n).heap[k]? = w.heap[k]? := fun k => by rw [show (w.drewN n).heap = w.heap from by simp]
  exact ⟨h.sp.move (e _), h.osp, h.row.move (fun k _ => e k), h.orow, fun i r hr => ⟨(h.rb i r hr).1.move (e _), (h.rb i r hr).2⟩, fun i r hr => ⟨(h.ra i r hr).1.move (e _), (h.ra i r hr).2⟩,
    fun i r hr k p hp => ⟨(h.pg i r hr k p hp).1.move (e _), (h.pg i r hr k p hp).2⟩, fun k hk => ⟨(h.lt k hk).1, by rw [show (w.drewN n).heap = w.heap from by simp]; exact (h.lt k hk).2⟩, h.good⟩
/-- What is made beside it turns nothing of it. -/
theorem Holds.keep (h : Holds w own base a v s) {w' : World} (hs : w.heap.size ≤ w'.heap.size) (hk : ∀ k, own k ≠ none → w'.heap[k]? = w.heap[k]?) : Holds w' own base a v s := by
  have e : ∀ (k : Nat) (r : Role), own k = some r → w'.heap[k]? = w.heap[k]? := fun k r hr => hk k (by rw [hr]; simp)
  exact ⟨h.sp.move (e _ _ h.osp), h.osp, h.row.move (fun k hv => e k _ (h.orow k hv)), h.orow, fun i r hr => ⟨(h.rb i r hr).1.move (e _ _ (h.rb i r hr).2), (h.rb i r hr).2⟩, fun i r hr => ⟨(h.ra i r hr).1.move (e _ _ (h.ra i r hr).2), (h.ra i r hr).2⟩,
    fun i r hr k p hp => ⟨(h.pg i r hr k p hp).1.move (e _ _ (h.pg i r hr k p hp).2), (h.pg i r hr k p hp).2⟩, fun k hk => ⟨(h.lt k hk).1, Nat.lt_of_lt_of_le (h.lt k hk).2 hs⟩, h.good⟩
theorem Holds.below (h : Holds w own base a v s) {w' : World} (hb : Below w.heap.size w w') : Holds w' own base a v s :=
  h.keep hb.size (fun k hk => hb.block k (h.lt k hk).2)
theorem Holds.slice (h : Holds w own base a v s) : ∃ A c, v = .slice A s.rs.length c ∧ s.rs.length ≤ c := by
  exact h.row.slice
theorem Holds.s0 (h : Holds w own base a v s) : w.cell? ⟨a, 0, none⟩ = some (.int .i64 s.budget) := h.sp.cell 0 _ rfl
theorem Holds.s1 (h : Holds w own base a v s) : w.cell? ⟨a, 1, none⟩ = some (.int .i64 s.used) := h.sp.cell 1 _ rfl
theorem Holds.s2 (h : Holds w own base a v s) : w.cell? ⟨a, 2, none⟩ = some v := h.sp.cell 2 _ rfl
/-- The row's cells. -/
theorem Holds.rows {A : Option Addr} {n c : Nat} (h : Holds w own base a (.slice A n c) s) : n = s.rs.length ∧ ∀ (i : Nat) (r : Rm), s.rs[i]? = some r → ∃ ad, A = some ad ∧ w.cell? (ad.add i) = some (.pointer (some ⟨r.b, 0, none⟩)) := by
  have hn : n = s.rs.length := by
    obtain ⟨A', c', hv, _⟩ := h.row.slice
    injection hv with _ e _
  refine ⟨hn, fun i r hi => ?_⟩
  obtain ⟨ad, c', hv, hc⟩ := h.row.cell (i := i) (u := ptrR r) (by rw [List.getElem?_map, hi]; rfl)
  injection hv with e _ _
  exact ⟨ad, e, hc⟩
theorem Holds.r0 (h : Holds w own base a v s) {i : Nat} {r : Rm} (hi : s.rs[i]? = some r) : w.cell? ⟨r.b, 0, none⟩ = some (.int .u64 r.at_) := (h.rb i r hi).1.cell 0 _ rfl
theorem Holds.r1 (h : Holds w own base a v s) {i : Nat} {r : Rm} (hi : s.rs[i]? = some r) : w.cell? ⟨r.b, 1, none⟩ = some (.slice (some ⟨r.ab, 0, none⟩) r.ps.length r.ps.length) := (h.rb i r hi).1.cell 1 _ rfl
theorem Holds.pp (h : Holds w own base a v s) {i : Nat} {r : Rm} (hi : s.rs[i]? = some r) {k : Nat} (hk : k < r.ps.length) : w.cell? ⟨r.ab, k, none⟩ = some (ptrP r.ps[k]) :=
  (h.ra i r hi).1.cell k _ (by simp [cellsA, hk])
theorem Holds.p0 (h : Holds w own base a v s) {i : Nat} {r : Rm} (hi : s.rs[i]? = some r) {k : Nat} {p : Pg} (hk : r.ps[k]? = some (some p)) : w.cell? ⟨p.b, 0, none⟩ = some (.int .u64 p.at_) := (h.pg i r hi k p hk).1.cell 0 _ rfl
theorem Holds.p1 (h : Holds w own base a v s) {i : Nat} {r : Rm} (hi : s.rs[i]? = some r) {k : Nat} {p : Pg} (hk : r.ps[k]? = some (some p)) : w.cell? ⟨p.b, 1, none⟩ = some (.int .i64 p.prot) := (h.pg i r hi k p hk).1.cell 1 _ rfl
end
end Go.Proofs.Ytmpahimeljbliaa.Vm
