/- An address space as plain lists: rooms, pages, what each call answers and makes of it. The numbers b and ab tell where a thing lies in memory; no answer hangs on them. -/
namespace Go.Proofs.Ytmpahimeljbliaa.Vm

/-- A page: its block, its place, what may be done, its bytes. -/
structure Pg where
  b : Nat
  at_ : Nat
  prot : Nat
  data : List Int
/-- A room: its block, its pages' block, where it begins, its pages. -/
structure Rm where
  b : Nat
  ab : Nat
  at_ : Nat
  ps : List (Option Pg)
structure Sp where
  budget : Nat
  used : Nat
  rs : List Rm

def Rm.fin (r : Rm) : Nat := r.at_ + r.ps.length * 256
/-- How many rooms begin no later than a place. -/
def behind (x : Nat) (l : List Rm) : Nat := (l.takeWhile fun r => decide (r.at_ ≤ x)).length
def gap (size : Nat) : List Rm → Nat → Nat
  | [], x => x
  | r :: l, x => if r.fin ≤ x then gap size l x else if x ≤ r.at_ ∧ size ≤ r.at_ - x then x else gap size l r.fin
def inRoom (r : Rm) (at_ size : Nat) : Bool := decide (r.at_ ≤ at_ ∧ at_ - r.at_ ≤ r.ps.length * 256 ∧ size ≤ r.ps.length * 256 - (at_ - r.at_))
/-- The number of the room in which so many bytes lie. -/
def findRoom (l : List Rm) (at_ size : Nat) : Option Nat :=
  match behind at_ l with
  | 0 => none
  | j + 1 => match l[j]? with
    | none => none
    | some r => if inRoom r at_ size = true then some j else none
def pagesN (n : Nat) : Nat := n / 256 + min (n % 256) 1
def loOf (r : Rm) (at_ : Nat) : Nat := (at_ - r.at_) / 256
def hiOf (r : Rm) (at_ size : Nat) : Nat := pagesN (at_ - r.at_ + size)
/-- The pages that so many bytes touch: the room, the first one, the one behind the last. -/
def allF (l : List Rm) (at_ size : Nat) : Option (Nat × Nat × Nat) :=
  match findRoom l at_ size with
  | none => none
  | some j => match l[j]? with
    | none => none
    | some r => if size = 0 then some (j, 0, 0) else if ((r.ps.take (hiOf r at_ size)).drop (loOf r at_)).all Option.isSome = true then some (j, loOf r at_, hiOf r at_ size) else none
def pagesOf (l : List Rm) (x : Nat × Nat × Nat) : List (Option Pg) :=
  match l[x.1]? with
  | none => []
  | some r => (r.ps.take x.2.2).drop x.2.1
/-- May this be done with a page that is there? -/
def okB (p : Nat) : Option Pg → Bool
  | none => false
  | some g => decide (g.prot &&& p = p)
def mayF (l : List Rm) (at_ size p : Nat) : Except Int (Nat × Nat × Nat) :=
  match allF l at_ size with
  | none => .error 52
  | some x => if (pagesOf l x).all (okB p) = true then .ok x else .error 54

/-- Rooms and pages as they are kept. -/
structure Rm.Good (r : Rm) : Prop where
  al : r.at_ % 256 = 0
  lo : 256 ≤ r.at_
  l1 : 1 ≤ r.ps.length
  l2 : r.ps.length ≤ 64
  hi : r.fin ≤ 1099511627776
  pg : ∀ (k : Nat) (p : Pg), r.ps[k]? = some (some p) → p.at_ = r.at_ + 256 * k ∧ p.prot ≤ 7 ∧ p.data.length = 256 ∧ ∀ x ∈ p.data, 0 ≤ x ∧ x ≤ 255
def total (l : List Rm) : Nat := (l.map fun r => r.ps.length).sum
structure Sp.Good (s : Sp) : Prop where
  b1 : 1 ≤ s.budget
  b2 : s.budget ≤ 1024
  us : s.used = total s.rs
  ub : s.used ≤ s.budget
  srt : s.rs.Pairwise fun r q => r.fin ≤ q.at_
  rm : ∀ r ∈ s.rs, r.Good
theorem total_ge : ∀ (l : List Rm), (∀ r ∈ l, 1 ≤ r.ps.length) → l.length ≤ total l
  | [], _ => Nat.le_refl _
  | r :: l, h => by
    have := total_ge l (fun q hq => h q (List.mem_cons_of_mem _ hq))
    have h1 := h r List.mem_cons_self
    simp only [total, List.map_cons, List.sum_cons, List.length_cons] at *
    omega
theorem Sp.Good.len {s : Sp} (h : s.Good) : s.rs.length ≤ 1024 := by
  have := total_ge s.rs (fun r hr => (h.rm r hr).l1)
  have := h.us
  have := h.ub
  have := h.b2
  omega
/-- Rooms of other numbers lie apart. -/
theorem Sp.Good.apart {s : Sp} (h : s.Good) {i j : Nat} {r q : Rm} (hi : s.rs[i]? = some r) (hj : s.rs[j]? = some q) (hij : i < j) : r.fin ≤ q.at_ := by
  obtain ⟨h1, rfl⟩ := List.getElem?_eq_some_iff.1 hi
  obtain ⟨h2, rfl⟩ := List.getElem?_eq_some_iff.1 hj
  exact List.pairwise_iff_getElem.1 h.srt i j h1 h2 hij
theorem Sp.Good.same {s : Sp} (h : s.Good) {i j : Nat} {r q : Rm} (hi : s.rs[i]? = some r) (hj : s.rs[j]? = some q) (ha : r.at_ = q.at_) : i = j := by
  have hr := h.rm r (List.mem_of_getElem? hi)
  have hq := h.rm q (List.mem_of_getElem? hj)
  have h1 := hr.l1
  have h2 := hq.l1
  rcases Nat.lt_trichotomy i j with c | c | c
  · have := h.apart hi hj c
    unfold Rm.fin at this
    omega
  · exact c
  · have := h.apart hj hi c
    unfold Rm.fin at this
    omega
/-- Pages of other numbers have other places. -/
theorem Sp.Good.page {s : Sp} (h : s.Good) {i j k m : Nat} {r q : Rm} {p g : Pg} (hi : s.rs[i]? = some r) (hj : s.rs[j]? = some q) (hp : r.ps[k]? = some (some p)) (hg : q.ps[m]? = some (some g)) (ha : p.at_ = g.at_) : i = j ∧ k = m := by
  have hr := h.rm r (List.mem_of_getElem? hi)
  have hq := h.rm q (List.mem_of_getElem? hj)
  have h1 := (hr.pg k p hp).1
  have h2 := (hq.pg m g hg).1
  have hk := (List.getElem?_eq_some_iff.1 hp).1
  have hm := (List.getElem?_eq_some_iff.1 hg).1
  rcases Nat.lt_trichotomy i j with c | c | c
  · have := h.apart hi hj c
    unfold Rm.fin at this
    omega
  · subst c
    rw [hi] at hj
    obtain rfl := Option.some.inj hj
    exact ⟨rfl, by omega⟩
  · have := h.apart hj hi c
    unfold Rm.fin at this
    omega
theorem behind_le (x : Nat) (l : List Rm) : behind x l ≤ l.length := (List.takeWhile_sublist _).length_le
theorem behind_lt (x : Nat) : ∀ (l : List Rm) (i : Nat) (r : Rm), i < behind x l → l[i]? = some r → r.at_ ≤ x
  | [], i, r, h, _ => by simp [behind] at h
  | q :: l, i, r, h, hr => by
    unfold behind at h
    rw [List.takeWhile_cons] at h
    by_cases c : q.at_ ≤ x
    · rw [if_pos (decide_eq_true c), List.length_cons] at h
      rcases i with _ | i
      · obtain rfl : q = r := by simpa using hr
        exact c
      · exact behind_lt x l i r (by unfold behind; omega) (by simpa using hr)
    · rw [if_neg (by simpa using c)] at h
      simp at h
theorem behind_at (x : Nat) : ∀ (l : List Rm) (r : Rm), l[behind x l]? = some r → x < r.at_
  | [], r, h => by simp at h
  | q :: l, r, h => by
    unfold behind at h
    rw [List.takeWhile_cons] at h
    by_cases c : q.at_ ≤ x
    · rw [if_pos (decide_eq_true c), List.length_cons, List.getElem?_cons_succ] at h
      exact behind_at x l r h
    · rw [if_neg (by simpa using c)] at h
      obtain rfl : q = r := by simpa using h
      omega
/-- In a kept space a room begins behind a place just where its number is no less. -/
theorem Sp.Good.behind_iff {s : Sp} (h : s.Good) {i : Nat} {r : Rm} (x : Nat) (hi : s.rs[i]? = some r) : x < r.at_ ↔ behind x s.rs ≤ i := by
  constructor
  · intro hx
    rcases Nat.lt_or_ge i (behind x s.rs) with c | c
    · have := behind_lt x s.rs i r c hi
      omega
    · exact c
  · intro hle
    have hil := (List.getElem?_eq_some_iff.1 hi).1
    have hb : behind x s.rs < s.rs.length := by omega
    have h0 := behind_at x s.rs _ (List.getElem?_eq_getElem hb)
    rcases Nat.lt_or_ge (behind x s.rs) i with c | c
    · have := h.apart (List.getElem?_eq_getElem hb) hi c
      unfold Rm.fin at this
      omega
    · obtain rfl : i = behind x s.rs := by omega
      rw [List.getElem?_eq_getElem hb] at hi
      obtain rfl := Option.some.inj hi
      exact h0
end Go.Proofs.Ytmpahimeljbliaa.Vm
