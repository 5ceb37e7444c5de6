/- Pages that were told, kept over what comes behind; a call with all that it leaves as it was. No condition beyond those of each lemma. -/
import Derived.Test.YtmpahimeljbliaaVmBack
namespace Go.Proofs.Ytmpahimeljbliaa.Vm
open Go.RowKit Go.Proofs Go.Proofs.YtmpahimeljbliaaW.PrintWords

/-- What is no space's stays as it is. -/
def Calm (own : Nat → Option Role) (w w' : World) : Prop := w.heap.size ≤ w'.heap.size ∧ ∀ k, k < w.heap.size → own k = none → w'.heap[k]? = w.heap[k]?
theorem Calm.refl (own : Nat → Option Role) (w : World) : Calm own w w := ⟨Nat.le_refl _, fun _ _ _ => rfl⟩
theorem Calm.trans {own own' : Nat → Option Role} {w w1 w2 : World} (h : Calm own w w1) (k : Calm own' w1 w2) (ho : ∀ i, i < w.heap.size → own i = none → own' i = none) : Calm own w w2 :=
  ⟨Nat.le_trans h.1 k.1, fun i hi hn => (k.2 i (Nat.lt_of_lt_of_le hi h.1) (ho i hi hn)).trans (h.2 i hi hn)⟩
theorem Calm.of_below {own : Nat → Option Role} {w w' : World} (h : Below w.heap.size w w') : Calm own w w' := ⟨h.size, fun k hk _ => h.block k hk⟩
theorem Calm.of_kp {own : Nat → Option Role} {base : Nat} {w w' : World} (h : Kp own base w w') : Calm own w w' := ⟨h.bel.size, h.kp⟩
theorem Calm.set {own : Nat → Option Role} {w w' : World} (h : Calm own w w') {g : Nat} (hg : w.heap.size ≤ g) (j : Nat) (u : Value) : Calm own w (w'.setCell ⟨g, j, none⟩ u) :=
  ⟨by rw [size_setCell]; exact h.1, fun k hk hn => (Below.heap_setCell w' ⟨g, j, none⟩ u k (fun e => by have : k = g := e; omega)).trans (h.2 k hk hn)⟩
theorem Calm.grown {own : Nat → Option Role} {w w1 w' : World} (h : Calm own w w1) {row : Option Nat} (hg : w1.grownBy w' row) (hr : ∀ k, row = some k → w.heap.size ≤ k) : Calm own w w' :=
  ⟨Nat.le_trans h.1 hg.size, fun k hk hn => (hg.block k (Nat.lt_of_lt_of_le hk h.1) (fun e => by have := hr k e.symm; omega)).trans (h.2 k hk hn)⟩
/-- A row of pages that was told. -/
structure Was (w : World) (own : Nat → Option Role) (A : Option Addr) (c : Nat) (P : List Pg) : Prop where
  row : ∃ base, w.ownsRow base 90 258 (.slice A P.length c) P.length (cellsL P)
  no : ∀ k, (Value.slice A P.length c).ownBlock = some k → own k = none ∧ k < w.heap.size
  lens : ∀ g ∈ P, g.data.length = 256
theorem Was.move {w w' : World} {own own' : Nat → Option Role} {A : Option Addr} {c : Nat} {P : List Pg} (h : Was w own A c P) (hc : Calm own w w') (ho : ∀ k, k < w.heap.size → own k = none → own' k = none) : Was w' own' A c P := by
  obtain ⟨⟨base, hr⟩, hn, hl⟩ := h
  exact ⟨⟨base, own_move hr (fun k hk => hc.2 k (hn k hk).2 (hn k hk).1)⟩, fun k hk => ⟨ho k (hn k hk).2 (hn k hk).1, Nat.lt_of_lt_of_le (hn k hk).2 hc.1⟩, hl⟩
theorem Was.below {w w' : World} {own : Nat → Option Role} {A : Option Addr} {c : Nat} {P : List Pg} (h : Was w own A c P) (hB : Below w.heap.size w w') : Was w' own A c P := h.move (Calm.of_below hB) (fun _ _ h => h)
theorem Was.at_ {w : World} {own : Nat → Option Role} {A : Option Addr} {c : Nat} {P : List Pg} (h : Was w own A c P) : PgAt w A P := by
  obtain ⟨⟨base, hr⟩, -, hl⟩ := h
  obtain ⟨A', c', e, hP⟩ := pgs_at hr hl
  injection e with e1 e2 e3
  subst e1
  exact hP
theorem Was.max {w : World} {own : Nat → Option Role} {A : Option Addr} {c : Nat} {P : List Pg} (h : Was w own A c P) : P.length ≤ 9223372036854775807 := by
  obtain ⟨⟨base, hr⟩, -, -⟩ := h
  exact own_max hr
theorem was_in {w : World} {own : Nat → Option Role} {base a : Nat} {v : Value} {s : Sp} (h : Holds w own base a v s) :
    Calls Try.prog 29 #[.pointer (some ⟨a, 0, none⟩)] w fun e w' => ∃ A c, e = .returned (.slice A (pgsOf s.rs).length c) ∧ Was w' own A c (pgsOf s.rs) ∧ Below w.heap.size w w' :=
  (pages_all h).mono (by
    rintro _ w' ⟨v', rfl, hO, hB⟩
    obtain ⟨A, c, rfl, -⟩ := pgs_at hO h.lens
    exact ⟨A, c, rfl, ⟨⟨_, hO⟩, fun k hk => ⟨Classical.byContradiction fun cc => by
      have h1 := (h.lt k cc).2
      have h2 := own_base hO k hk
      omega, own_lt hO k hk⟩, h.lens⟩, hB⟩)
/-- A call, and what it leaves. -/
theorem St.call2 {w0 wr W : World} {own : Nat → Option Role} {a : Nat} {v : Value} {s : Sp} {A7 : Option Addr} {c7 : Nat} {rooms : List Nat} (h : St w0 wr own a v s (.slice A7 rooms.length c7) rooms) {ad : Addr} {p : Opn} {A6 : Option Addr} {c6 : Nat} (hat : OpAt w0 ad p A6 c6) (hok : p.Ok) (hl : rooms.length ≤ 100) (hint : Nat) (hh : hint ≤ 18446744073709551615) (hB : Below wr.heap.size wr W) :
    Calls Try.prog 27 #[.pointer (some ⟨a, 0, none⟩), .agg #[.int .i64 p.kind, .int .i64 p.room, .int .u64 p.off, .int .u64 p.size, .int .i64 p.prot, .int .u64 p.hint, .slice A6 p.data.length c6], .slice A7 rooms.length c7, .int .u64 hint] W fun e w' => ∃ (own' : Nat → Option Role) (v' : Value) (s' : Sp) (o : Out), e = .returned (.agg #[.int .i64 o.e, .string (strOfNums o.b), .int .u64 o.at_, .bool o.room]) ∧ Done s (placeF p rooms) p hint s' o ∧ St w0 w' own' a v' s' (.slice A7 rooms.length c7) rooms ∧ Calm own W w' ∧ (∀ k, k < W.heap.size → own' k = own k) := by
  have hS := h.below hB
  obtain ⟨A8, c8, e8, hr⟩ := hS.reads
  cases e8
  refine (done_in hS.hold p hok A6 c6 (hat.src hS.bel hS.hold) rooms A7 c7 hr h.le hl hint hh).mono ?_
  rintro _ w' ⟨own', v', s', o, rfl, hD, hH, ho, hK⟩
  exact ⟨own', v', s', o, rfl, hD, hS.kept hH ho hK, Calm.of_kp hK, ho⟩
theorem Done.room0 {s s' : Sp} {x : Nat} {p : Opn} {hint : Nat} {o : Out} (h : Done s x p hint s' o) (hr : o.room = true) : o.e = 0 := by
  rcases h with ⟨-, b, ab, rfl, rfl⟩ | ⟨-, nb, rfl, rfl⟩ | ⟨-, rfl, rfl⟩ | ⟨-, rfl, rfl⟩ | ⟨-, rfl, rfl⟩ | ⟨-, rfl, rfl⟩ | ⟨-, rfl, rfl⟩ | ⟨-, rfl, rfl⟩
  · simpa using hr
  all_goals cases hr
end Go.Proofs.Ytmpahimeljbliaa.Vm
