/- One page of an address space is turned: the plain lists, and what lies in memory. No condition beyond those of each lemma. -/
import Derived.Test.YtmpahimeljbliaaVmBase
namespace Go.Proofs.Ytmpahimeljbliaa.Vm
open Go.RowKit Go.Proofs Go.Proofs.YtmpahimeljbliaaW.PrintWords

def Rm.mod (r : Rm) (q : Nat) (f : Pg → Pg) : Rm := { r with ps := r.ps.modify q (Option.map f) }
def Sp.mod (s : Sp) (j q : Nat) (f : Pg → Pg) : Sp := { s with rs := s.rs.modify j fun r => r.mod q f }
theorem mod_len (r : Rm) (q : Nat) (f : Pg → Pg) : (r.mod q f).ps.length = r.ps.length := by simp [Rm.mod]
theorem mod_fin (r : Rm) (q : Nat) (f : Pg → Pg) : (r.mod q f).fin = r.fin := by simp [Rm.fin, Rm.mod]
theorem mod_at (r : Rm) (q : Nat) (f : Pg → Pg) (k : Nat) : (r.mod q f).ps[k]? = if q = k then (r.ps[k]?).map (Option.map f) else r.ps[k]? := by
  unfold Rm.mod
  rw [List.getElem?_modify]
  split
  · next h => cases r.ps[k]? <;> simp [h]
  · next h => cases r.ps[k]? <;> simp [h]
theorem smod_at (s : Sp) (j q : Nat) (f : Pg → Pg) (i : Nat) : (s.mod j q f).rs[i]? = if j = i then (s.rs[i]?).map (fun r => r.mod q f) else s.rs[i]? := by
  unfold Sp.mod
  rw [List.getElem?_modify]
  split
  · next h => cases s.rs[i]? <;> simp [h]
  · next h => cases s.rs[i]? <;> simp [h]
theorem smod_len (s : Sp) (j q : Nat) (f : Pg → Pg) : (s.mod j q f).rs.length = s.rs.length := by simp [Sp.mod]
theorem smod_room {s : Sp} {j q : Nat} {f : Pg → Pg} {i : Nat} {r : Rm} (h : (s.mod j q f).rs[i]? = some r) : ∃ r0, s.rs[i]? = some r0 ∧ r = if j = i then r0.mod q f else r0 := by
  rw [smod_at] at h
  split at h
  · next hj =>
    obtain ⟨r0, h0, rfl⟩ := Option.map_eq_some_iff.1 h
    exact ⟨r0, h0, by rw [if_pos hj]⟩
  · next hj => exact ⟨r, h, by rw [if_neg hj]⟩
/-- A page as it is kept. -/
structure PgOk (r : Rm) (k : Nat) (p : Pg) : Prop where
  at_ : p.at_ = r.at_ + 256 * k
  prot : p.prot ≤ 7
  len : p.data.length = 256
  bytes : ∀ x ∈ p.data, 0 ≤ x ∧ x ≤ 255
theorem Rm.Good.ok {r : Rm} (h : r.Good) {k : Nat} {p : Pg} (hp : r.ps[k]? = some (some p)) : PgOk r k p := ⟨(h.pg k p hp).1, (h.pg k p hp).2.1, (h.pg k p hp).2.2.1, (h.pg k p hp).2.2.2⟩
theorem Rm.Good.mod {r : Rm} (h : r.Good) {q : Nat} {g : Pg} (hq : r.ps[q]? = some (some g)) {f : Pg → Pg} (hf : PgOk r q (f g)) : (r.mod q f).Good :=
  ⟨h.al, h.lo, by rw [mod_len]; exact h.l1, by rw [mod_len]; exact h.l2, by rw [mod_fin]; exact h.hi, fun k p hp => by
    rw [mod_at] at hp
    split at hp
    · next hk =>
      subst hk
      rw [hq] at hp
      obtain rfl : f g = p := by simpa using hp
      exact ⟨hf.at_, hf.prot, hf.len, hf.bytes⟩
    · exact h.pg k p hp⟩
theorem total_mod (s : Sp) (j q : Nat) (f : Pg → Pg) : total (s.mod j q f).rs = total s.rs := by
  unfold total
  congr 1
  refine List.ext_getElem? fun i => ?_
  rw [List.getElem?_map, List.getElem?_map, smod_at]
  split
  · cases s.rs[i]? <;> simp [mod_len]
  · rfl
theorem Sp.Good.mod {s : Sp} (h : s.Good) {j q : Nat} {r : Rm} {g : Pg} (hr : s.rs[j]? = some r) (hq : r.ps[q]? = some (some g)) {f : Pg → Pg} (hf : PgOk r q (f g)) : (s.mod j q f).Good := by
  refine ⟨h.b1, h.b2, by rw [total_mod]; exact h.us, h.ub, ?_, ?_⟩
  · rw [List.pairwise_iff_getElem]
    intro i k h1 h2 hik
    obtain ⟨r1, e1, e1'⟩ := smod_room (List.getElem?_eq_getElem h1)
    obtain ⟨r2, e2, e2'⟩ := smod_room (List.getElem?_eq_getElem h2)
    have := h.apart e1 e2 hik
    rw [e1', e2']
    have a1 : (if j = i then r1.mod q f else r1).fin = r1.fin := by split <;> simp [mod_fin]
    have a2 : (if j = k then r2.mod q f else r2).at_ = r2.at_ := by split <;> rfl
    rw [a1, a2]
    exact this
  · intro r1 hm
    obtain ⟨i, hi⟩ := List.mem_iff_getElem?.1 hm
    obtain ⟨r0, e0, rfl⟩ := smod_room hi
    split
    · next hj =>
      subst hj
      rw [hr] at e0
      obtain rfl := Option.some.inj e0
      exact (h.rm r (List.mem_of_getElem? hr)).mod hq hf
    · exact h.rm r0 (List.mem_of_getElem? e0)
theorem Holds.mod {w w' : World} {own : Nat → Option Role} {base a : Nat} {v : Value} {s : Sp} (h : Holds w own base a v s) {j q : Nat} {r : Rm} {g : Pg} (hr : s.rs[j]? = some r) (hq : r.ps[q]? = some (some g)) {f : Pg → Pg} (hf : PgOk r q (f g)) (hb : (f g).b = g.b)
    (hB : Blk w' g.b (cellsP (f g)) 90) (hk : ∀ i, i ≠ g.b → w'.heap[i]? = w.heap[i]?) (hs : w'.heap.size = w.heap.size) : Holds w' own base a v (s.mod j q f) := by
  have hg := (h.pg j r hr q g hq).2
  have hgo := h.good.mod hr hq hf
  have hok := (h.good.rm r (List.mem_of_getElem? hr)).ok hq
  have ne : ∀ {i : Nat} {o : Role}, own i = some o → o ≠ .page g.at_ → w'.heap[i]? = w.heap[i]? := fun {i o} hi ho => hk i (fun e => ho (by rw [e, hg] at hi; exact (Option.some.inj hi).symm))
  have hmap : ∀ {i : Nat} {r0 : Rm}, s.rs[i]? = some r0 → (if j = i then r0.mod q f else r0).ps.map ptrP = r0.ps.map ptrP := fun {i r0} h0 => by
    split
    · next hj =>
      subst hj
      rw [hr] at h0
      obtain rfl := Option.some.inj h0
      refine List.ext_getElem? fun k => ?_
      rw [List.getElem?_map, List.getElem?_map, mod_at]
      split
      · next hk =>
        subst hk
        rw [hq]
        simp [ptrP, hb]
      · rfl
    · rfl
  have hlen : ∀ {i : Nat} {r0 : Rm}, (if j = i then r0.mod q f else r0).ps.length = r0.ps.length := fun {i r0} => by split <;> simp [mod_len]
  have hparts : ∀ {i : Nat} {r0 : Rm}, (if j = i then r0.mod q f else r0).b = r0.b ∧ (if j = i then r0.mod q f else r0).ab = r0.ab ∧ (if j = i then r0.mod q f else r0).at_ = r0.at_ := fun {i r0} => by split <;> exact ⟨rfl, rfl, rfl⟩
  refine ⟨h.sp.move (ne h.osp (by simp)), h.osp, ?_, h.orow, ?_, ?_, ?_, fun k hk => by rw [hs]; exact h.lt k hk, hgo⟩
  · have hrow := h.row.move (fun k hv => ne (h.orow k hv) (by simp))
    have e : (s.mod j q f).rs.map ptrR = s.rs.map ptrR := by
      refine List.ext_getElem? fun i => ?_
      rw [List.getElem?_map, List.getElem?_map, smod_at]
      split
      · cases s.rs[i]? <;> rfl
      · rfl
    rw [e, smod_len]
    exact hrow
  · intro i r1 h1
    obtain ⟨r0, h0, rfl⟩ := smod_room h1
    obtain ⟨e1, e2, e3⟩ := hparts (i := i) (r0 := r0)
    have := h.rb i r0 h0
    rw [e1, e3]
    refine ⟨?_, this.2⟩
    unfold cellsR
    rw [e2, e3, hlen]
    exact this.1.move (ne this.2 (by simp))
  · intro i r1 h1
    obtain ⟨r0, h0, rfl⟩ := smod_room h1
    obtain ⟨e1, e2, e3⟩ := hparts (i := i) (r0 := r0)
    have := h.ra i r0 h0
    rw [e2, e3]
    refine ⟨?_, this.2⟩
    unfold cellsA
    rw [hmap h0]
    exact this.1.move (ne this.2 (by simp))
  · intro i r1 h1 k p hp
    obtain ⟨r0, h0, rfl⟩ := smod_room h1
    have key : ∀ (p : Pg), r0.ps[k]? = some (some p) → ¬ (i = j ∧ k = q) → Blk w' p.b (cellsP p) 90 ∧ own p.b = some (.page p.at_) := fun p hp hne => by
      have := h.pg i r0 h0 k p hp
      refine ⟨this.1.move (ne this.2 ?_), this.2⟩
      intro e
      injection e with e
      exact hne (h.good.page h0 hr hp hq e)
    by_cases hj : j = i
    · rw [if_pos hj, mod_at] at hp
      by_cases hk2 : q = k
      · rw [if_pos hk2] at hp
        subst hj
        subst hk2
        rw [hr] at h0
        obtain rfl := Option.some.inj h0
        rw [hq] at hp
        obtain rfl : f g = p := by simpa using hp
        rw [hb, hf.at_, ← hok.at_]
        exact ⟨hB, hg⟩
      · rw [if_neg hk2] at hp
        exact key p hp (fun e => hk2 e.2.symm)
    · rw [if_neg hj] at hp
      exact key p hp (fun e => hj e.1.symm)
/-- The first n pages from lo on are turned. -/
def Sp.mods (s : Sp) (j lo : Nat) (f : Nat → Pg → Pg) : Nat → Sp
  | 0 => s
  | n + 1 => (s.mods j lo f n).mod j (lo + n) (f n)
def Rm.mods (r : Rm) (lo : Nat) (f : Nat → Pg → Pg) : Nat → Rm
  | 0 => r
  | n + 1 => (r.mods lo f n).mod (lo + n) (f n)
theorem mods_room {s : Sp} {j : Nat} {r : Rm} (hr : s.rs[j]? = some r) (lo : Nat) (f : Nat → Pg → Pg) : ∀ n, (s.mods j lo f n).rs[j]? = some (r.mods lo f n)
  | 0 => hr
  | n + 1 => by rw [Sp.mods, smod_at, if_pos rfl, mods_room hr lo f n]; rfl
theorem mods_other (s : Sp) (j lo : Nat) (f : Nat → Pg → Pg) (i : Nat) (hi : j ≠ i) : ∀ n, (s.mods j lo f n).rs[i]? = s.rs[i]?
  | 0 => rfl
  | n + 1 => by rw [Sp.mods, smod_at, if_neg hi, mods_other s j lo f i hi n]
theorem mods_parts (r : Rm) (lo : Nat) (f : Nat → Pg → Pg) : ∀ n, (r.mods lo f n).b = r.b ∧ (r.mods lo f n).ab = r.ab ∧ (r.mods lo f n).at_ = r.at_ ∧ (r.mods lo f n).ps.length = r.ps.length
  | 0 => ⟨rfl, rfl, rfl, rfl⟩
  | n + 1 => by
    obtain ⟨h1, h2, h3, h4⟩ := mods_parts r lo f n
    exact ⟨h1, h2, h3, by rw [Rm.mods, mod_len]; exact h4⟩
/-- A page behind those that were turned is as it was, one of them is turned. -/
theorem mods_at (r : Rm) (lo : Nat) (f : Nat → Pg → Pg) (k : Nat) : ∀ n, (r.mods lo f n).ps[k]? = if lo ≤ k ∧ k < lo + n then (r.ps[k]?).map (Option.map (f (k - lo))) else r.ps[k]?
  | 0 => by rw [if_neg (by omega)]; rfl
  | n + 1 => by
    rw [Rm.mods, mod_at, mods_at r lo f k n]
    by_cases c : lo + n = k
    · subst c
      rw [if_pos rfl, if_neg (by omega), if_pos (by omega), Nat.add_sub_cancel_left]
    · rw [if_neg c]
      by_cases c2 : lo ≤ k ∧ k < lo + n
      · rw [if_pos c2, if_pos (by omega)]
      · rw [if_neg c2, if_neg (by omega)]
end Go.Proofs.Ytmpahimeljbliaa.Vm
