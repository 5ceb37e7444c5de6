/- A page more in a space: the plain lists, and what lies in memory. No condition beyond those of each lemma. -/
import Derived.Test.YtmpahimeljbliaaVmPut
import Derived.Laws.Tables
namespace Go.Proofs.Ytmpahimeljbliaa.Vm
open Go.RowKit Go.Proofs Go.Proofs.YtmpahimeljbliaaW.PrintWords

def Rm.add (r : Rm) (q : Nat) (p : Pg) : Rm := { r with ps := r.ps.set q (some p) }
def Sp.add (s : Sp) (j q : Nat) (p : Pg) : Sp := { s with rs := s.rs.modify j fun r => r.add q p }
theorem add_len (r : Rm) (q : Nat) (p : Pg) : (r.add q p).ps.length = r.ps.length := by simp [Rm.add]
theorem sadd_at (s : Sp) (j q : Nat) (p : Pg) (i : Nat) : (s.add j q p).rs[i]? = if j = i then (s.rs[i]?).map (fun r => r.add q p) else s.rs[i]? := by
  unfold Sp.add
  rw [List.getElem?_modify]
  split
  · next h => cases s.rs[i]? <;> simp [h]
  · next h => cases s.rs[i]? <;> simp [h]
theorem sadd_len (s : Sp) (j q : Nat) (p : Pg) : (s.add j q p).rs.length = s.rs.length := by simp [Sp.add]
theorem sadd_room {s : Sp} {j q : Nat} {p : Pg} {i : Nat} {r : Rm} (h : (s.add j q p).rs[i]? = some r) : ∃ r0, s.rs[i]? = some r0 ∧ r = if j = i then r0.add q p else r0 := by
  rw [sadd_at] at h
  split at h
  · next hj =>
    obtain ⟨r0, h0, rfl⟩ := Option.map_eq_some_iff.1 h
    exact ⟨r0, h0, by rw [if_pos hj]⟩
  · next hj => exact ⟨r, h, by rw [if_neg hj]⟩
theorem add_at' (r : Rm) (q : Nat) (p : Pg) (k : Nat) : (r.add q p).ps[k]? = if q = k then (if q < r.ps.length then some (some p) else none) else r.ps[k]? := by
  unfold Rm.add
  rw [List.getElem?_set]
theorem Sp.Good.add {s : Sp} (h : s.Good) {j q : Nat} {r : Rm} (hr : s.rs[j]? = some r) {p : Pg} (hp : PgOk r q p) : (s.add j q p).Good := by
  have hparts : ∀ {i : Nat} {r0 : Rm}, (if j = i then r0.add q p else r0).at_ = r0.at_ ∧ (if j = i then r0.add q p else r0).fin = r0.fin ∧ (if j = i then r0.add q p else r0).ps.length = r0.ps.length := fun {i r0} => by
    split
    · exact ⟨rfl, by simp [Rm.fin, Rm.add], add_len _ _ _⟩
    · exact ⟨rfl, rfl, rfl⟩
  refine ⟨h.b1, h.b2, ?_, h.ub, ?_, ?_⟩
  · have : total (s.add j q p).rs = total s.rs := by
      unfold total
      congr 1
      refine List.ext_getElem? fun i => ?_
      rw [List.getElem?_map, List.getElem?_map, sadd_at]
      split
      · cases s.rs[i]? <;> simp [add_len]
      · rfl
    rw [this]
    exact h.us
  · rw [List.pairwise_iff_getElem]
    intro i k h1 h2 hik
    obtain ⟨r1, e1, e1'⟩ := sadd_room (List.getElem?_eq_getElem h1)
    obtain ⟨r2, e2, e2'⟩ := sadd_room (List.getElem?_eq_getElem h2)
    rw [e1', e2', (hparts (i := i)).2.1, (hparts (i := k)).1]
    exact h.apart e1 e2 hik
  · intro r1 hm
    obtain ⟨i, hi⟩ := List.mem_iff_getElem?.1 hm
    obtain ⟨r0, e0, rfl⟩ := sadd_room hi
    have hg := h.rm r0 (List.mem_of_getElem? e0)
    obtain ⟨a1, a2, a3⟩ := hparts (i := i) (r0 := r0)
    refine ⟨by rw [a1]; exact hg.al, by rw [a1]; exact hg.lo, by rw [a3]; exact hg.l1, by rw [a3]; exact hg.l2, by rw [a2]; exact hg.hi, fun k g hk => ?_⟩
    rw [a1]
    by_cases hj : j = i
    · subst hj
      rw [hr] at e0
      obtain rfl := Option.some.inj e0
      rw [if_pos rfl, add_at'] at hk
      split at hk
      · next hq =>
        subst hq
        split at hk
        · obtain rfl : p = g := by simpa using hk
          exact ⟨hp.at_, hp.prot, hp.len, hp.bytes⟩
        · cases hk
      · exact hg.pg k g hk
    · rw [if_neg hj] at hk
      exact hg.pg k g hk
theorem Holds.add {w w' : World} {own : Nat → Option Role} {base a : Nat} {v : Value} {s : Sp} (h : Holds w own base a v s) {j q : Nat} {r : Rm} (hr : s.rs[j]? = some r) (hq : q < r.ps.length) {p : Pg} (hp : PgOk r q p) (hb : w.heap.size ≤ p.b)
    (hbase : base ≤ p.b) (hB : Blk w' p.b (cellsP p) 90) (hA : Blk w' r.ab (cellsA (r.add q p)) 126) (hk : ∀ i, i ≠ p.b → i ≠ r.ab → i < w.heap.size → w'.heap[i]? = w.heap[i]?) (hs : w.heap.size ≤ w'.heap.size) :
    Holds w' (fun k => if k = p.b then some (.page p.at_) else own k) base a v (s.add j q p) := by
  have hgo := h.good.add hr hp
  have hra := (h.ra j r hr).2
  have lt : ∀ {i : Nat} {o : Role}, own i = some o → i < w.heap.size := fun {i o} hi => (h.lt i (by rw [hi]; simp)).2
  have ne : ∀ {i : Nat} {o : Role}, own i = some o → o ≠ .arr r.at_ → w'.heap[i]? = w.heap[i]? := fun {i o} hi ho => hk i (by have := lt hi; omega) (fun e => ho (by rw [e, hra] at hi; exact (Option.some.inj hi).symm)) (lt hi)
  have ow : ∀ {i : Nat} {o : Role}, own i = some o → (if i = p.b then some (Role.page p.at_) else own i) = some o := fun {i o} hi => by rw [if_neg (by have := lt hi; omega)]; exact hi
  refine ⟨h.sp.move (ne h.osp (by simp)), ow h.osp, ?_, fun k hk => ow (h.orow k hk), ?_, ?_, ?_, fun k hk => ?_, hgo⟩
  · have hrow := h.row.move (fun k hv => ne (h.orow k hv) (by simp))
    have e : (s.add j q p).rs.map ptrR = s.rs.map ptrR := by
      refine List.ext_getElem? fun i => ?_
      rw [List.getElem?_map, List.getElem?_map, sadd_at]
      split
      · cases s.rs[i]? <;> rfl
      · rfl
    rw [e, sadd_len]
    exact hrow
  · intro i r1 h1
    obtain ⟨r0, h0, rfl⟩ := sadd_room h1
    have := h.rb i r0 h0
    have e : (if j = i then r0.add q p else r0).b = r0.b ∧ cellsR (if j = i then r0.add q p else r0) = cellsR r0 ∧ (if j = i then r0.add q p else r0).at_ = r0.at_ := by
      split
      · exact ⟨rfl, by unfold cellsR; rw [add_len]; rfl, rfl⟩
      · exact ⟨rfl, rfl, rfl⟩
    rw [e.1, e.2.1, e.2.2]
    exact ⟨this.1.move (ne this.2 (by simp)), ow this.2⟩
  · intro i r1 h1
    obtain ⟨r0, h0, rfl⟩ := sadd_room h1
    have := h.ra i r0 h0
    by_cases hj : j = i
    · subst hj
      rw [hr] at h0
      obtain rfl := Option.some.inj h0
      rw [if_pos rfl]
      exact ⟨hA, ow this.2⟩
    · rw [if_neg hj]
      refine ⟨this.1.move (ne this.2 ?_), ow this.2⟩
      intro e
      injection e with e
      exact hj (h.good.same hr h0 e.symm)
  · intro i r1 h1 k g hg
    obtain ⟨r0, h0, rfl⟩ := sadd_room h1
    have old : ∀ g : Pg, r0.ps[k]? = some (some g) → Blk w' g.b (cellsP g) 90 ∧ (if g.b = p.b then some (Role.page p.at_) else own g.b) = some (.page g.at_) := fun g hg => by
      have := h.pg i r0 h0 k g hg
      exact ⟨this.1.move (ne this.2 (by simp)), ow this.2⟩
    by_cases hj : j = i
    · rw [if_pos hj, add_at'] at hg
      split at hg
      · split at hg
        · obtain rfl : p = g := by simpa using hg
          exact ⟨hB, if_pos rfl⟩
        · cases hg
      · exact old g hg
    · rw [if_neg hj] at hg
      exact old g hg
  · replace hk : (if k = p.b then some (Role.page p.at_) else own k) ≠ none := hk
    by_cases e : k = p.b
    · rw [e]
      exact ⟨hbase, hB.lt⟩
    · rw [if_neg e] at hk
      have := h.lt k hk
      exact ⟨this.1, by omega⟩
/-- The first n pages from lo on are laid. -/
def Sp.adds (s : Sp) (j lo : Nat) (f : Nat → Pg) : Nat → Sp
  | 0 => s
  | n + 1 => (s.adds j lo f n).add j (lo + n) (f n)
def Rm.adds (r : Rm) (lo : Nat) (f : Nat → Pg) : Nat → Rm
  | 0 => r
  | n + 1 => (r.adds lo f n).add (lo + n) (f n)
theorem adds_room {s : Sp} {j : Nat} {r : Rm} (hr : s.rs[j]? = some r) (lo : Nat) (f : Nat → Pg) : ∀ n, (s.adds j lo f n).rs[j]? = some (r.adds lo f n)
  | 0 => hr
  | n + 1 => by rw [Sp.adds, sadd_at, if_pos rfl, adds_room hr lo f n]; rfl
theorem adds_other (s : Sp) (j lo : Nat) (f : Nat → Pg) (i : Nat) (hi : j ≠ i) : ∀ n, (s.adds j lo f n).rs[i]? = s.rs[i]?
  | 0 => rfl
  | n + 1 => by rw [Sp.adds, sadd_at, if_neg hi, adds_other s j lo f i hi n]
theorem adds_parts (r : Rm) (lo : Nat) (f : Nat → Pg) : ∀ n, (r.adds lo f n).b = r.b ∧ (r.adds lo f n).ab = r.ab ∧ (r.adds lo f n).at_ = r.at_ ∧ (r.adds lo f n).ps.length = r.ps.length
  | 0 => ⟨rfl, rfl, rfl, rfl⟩
  | n + 1 => by
    obtain ⟨h1, h2, h3, h4⟩ := adds_parts r lo f n
    exact ⟨h1, h2, h3, by rw [Rm.adds, add_len]; exact h4⟩
theorem adds_get (r : Rm) (lo : Nat) (f : Nat → Pg) (k : Nat) : ∀ n, lo + n ≤ r.ps.length → (r.adds lo f n).ps[k]? = if lo ≤ k ∧ k < lo + n then some (some (f (k - lo))) else r.ps[k]?
  | 0, _ => by rw [if_neg (by omega)]; rfl
  | n + 1, h => by
    rw [Rm.adds, add_at', adds_get r lo f k n (by omega), (adds_parts r lo f n).2.2.2]
    by_cases c : lo + n = k
    · subst c
      rw [if_pos rfl, if_pos (by omega), if_pos (by omega), Nat.add_sub_cancel_left]
    · rw [if_neg c]
      by_cases c2 : lo ≤ k ∧ k < lo + n
      · rw [if_pos c2, if_pos (by omega)]
      · rw [if_neg c2, if_neg (by omega)]
theorem adds_congr (s : Sp) (j lo : Nat) (f g : Nat → Pg) : ∀ n, (∀ i, i < n → f i = g i) → s.adds j lo f n = s.adds j lo g n
  | 0, _ => rfl
  | n + 1, h => by rw [Sp.adds, Sp.adds, adds_congr s j lo f g n (fun i hi => h i (by omega)), h n (by omega)]
/-- A page as it is made: its place, what may be done, no bytes yet. -/
def page0 (x p : Nat) : Pg := ⟨0, x, p, List.replicate 256 0⟩
set_option maxRecDepth 100000 in
theorem built_page (x p : Nat) : Try.prog.built 90 [(0, .int .u64 x), (1, .int .i64 p)] = some (cellsP (page0 x p)) := by kernel_rfl
theorem build_page {ops : Array Oper} {rest : List Oper} {o : Oper} {a : Act} {w : World} {Q : Exit → Act → World → Prop} (hg : o.guard = none) (u v : Operand) (ho : o.op = .build 90 #[(0, u), (1, v)]) (x p : Nat) (hx : a.eval u = .int .u64 x) (hp : a.eval v = .int .i64 p)
    (h : wpList Try.prog ops Q rest (a.put o.dst (.agg (cellsP (page0 x p)))) w) : wpList Try.prog ops Q (o :: rest) a w := by
  have e : (#[(0, u), (1, v)].map fun ((i, x) : Nat × Operand) => (i, a.eval x)).toList = [(0, .int .u64 x), (1, .int .i64 p)] := by simp [hx, hp]
  refine wpList_build hg 90 #[(0, u), (1, v)] ho ?_ ?_
  · rw [e, built_page]
    rfl
  · rw [e, built_page]
    exact h
end Go.Proofs.Ytmpahimeljbliaa.Vm
