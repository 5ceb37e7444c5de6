/- What a write turns, and what is read behind it: of plain lists. No condition beyond those of each lemma. -/
import Derived.Test.YtmpahimeljbliaaVmSim
namespace Go.Proofs.Ytmpahimeljbliaa.Vm

/-- Two rows, element by element. -/
def Rel {α : Type} (R : α → α → Prop) (P Q : List α) : Prop := P.length = Q.length ∧ ∀ (i : Nat) (p q : α), P[i]? = some p → Q[i]? = some q → R p q
theorem Rel.cons {α : Type} {R : α → α → Prop} {p q : α} {P Q : List α} (h : R p q) (hr : Rel R P Q) : Rel R (p :: P) (q :: Q) :=
  ⟨by simp [hr.1], fun i p' q' hp hq => by
    rcases i with _ | i
    · simp at hp hq
      rw [← hp, ← hq]
      exact h
    · exact hr.2 i p' q' (by simpa using hp) (by simpa using hq)⟩
theorem Rel.append {α : Type} {R : α → α → Prop} : ∀ {P Q : List α} {P' Q' : List α}, Rel R P Q → Rel R P' Q' → Rel R (P ++ P') (Q ++ Q')
  | [], [], _, _, _, h' => h'
  | [], _ :: _, _, _, h, _ => by have := h.1; simp at this
  | _ :: _, [], _, _, h, _ => by have := h.1; simp at this
  | p :: P, q :: Q, _, _, h, h' => Rel.cons (h.2 0 p q rfl rfl) (Rel.append ⟨by have := h.1; simpa using this, fun i a b ha hb => h.2 (i + 1) a b (by simpa using ha) (by simpa using hb)⟩ h')
/-- Two places of a room: neither is there, or both are, so related. -/
def Slot (R : Pg → Pg → Prop) : Option Pg → Option Pg → Prop
  | none, none => True
  | some p, some q => R p q
  | _, _ => False
theorem row_rel {R : Pg → Pg → Prop} : ∀ {ps qs : List (Option Pg)}, Rel (Slot R) ps qs → Rel R (ps.filterMap id) (qs.filterMap id)
  | [], [], _ => ⟨rfl, fun i p q hp => by simp at hp⟩
  | [], _ :: _, h => by have := h.1; simp at this
  | _ :: _, [], h => by have := h.1; simp at this
  | x :: ps, y :: qs, h => by
    have ih : Rel R (ps.filterMap id) (qs.filterMap id) := row_rel ⟨by have := h.1; simpa using this, fun i a b ha hb => h.2 (i + 1) a b (by simpa using ha) (by simpa using hb)⟩
    have h0 := h.2 0 x y rfl rfl
    cases x with
    | none => cases y with
      | none => simpa using ih
      | some q => exact h0.elim
    | some p => cases y with
      | none => exact h0.elim
      | some q => exact Rel.cons h0 ih
theorem rooms_rel {R : Pg → Pg → Prop} : ∀ {l k : List Rm}, Rel (fun r q : Rm => Rel (Slot R) r.ps q.ps) l k → Rel R (pgsOf l) (pgsOf k)
  | [], [], _ => ⟨rfl, fun i p q hp => by simp [pgsOf] at hp⟩
  | [], _ :: _, h => by have := h.1; simp at this
  | _ :: _, [], h => by have := h.1; simp at this
  | r :: l, q :: k, h => by
    have ih : Rel R (pgsOf l) (pgsOf k) := rooms_rel ⟨by have := h.1; simpa using this, fun i a b ha hb => h.2 (i + 1) a b (by simpa using ha) (by simpa using hb)⟩
    exact Rel.append (row_rel (h.2 0 r q rfl rfl)) ih
theorem mods_len (s : Sp) (j lo : Nat) (f : Nat → Pg → Pg) : ∀ n, (s.mods j lo f n).rs.length = s.rs.length
  | 0 => rfl
  | n + 1 => by rw [Sp.mods, smod_len, mods_len s j lo f n]
theorem Rel.refl {α : Type} {R : α → α → Prop} (l : List α) (h : ∀ x ∈ l, R x x) : Rel R l l := ⟨rfl, fun i p q hp hq => by
  rw [hp] at hq
  obtain rfl := Option.some.inj hq
  exact h _ (List.mem_of_getElem? hp)⟩
theorem slot_refl {R : Pg → Pg → Prop} (x : Option Pg) (h : ∀ p, x = some p → R p p) : Slot R x x := by
  cases x with
  | none => trivial
  | some p => exact h p rfl
theorem pg_hi {s : Sp} (h : s.Good) {r : Rm} (hr : r ∈ s.rs) {k : Nat} {p : Pg} (hk : r.ps[k]? = some (some p)) : p.at_ ≤ 1099511627776 ∧ p.data.length = 256 := by
  have h1 := h.rm r hr
  have h2 := page_in h1 hk
  have h3 := h1.hi
  exact ⟨by omega, (h1.ok hk).len⟩
theorem sim1_refl {s : Sp} (h : s.Good) (x z : Nat) {r : Rm} (hr : r ∈ s.rs) {k : Nat} {p : Pg} (hk : r.ps[k]? = some (some p)) : Sim1 x z p p :=
  ⟨rfl, rfl, (pg_hi h hr hk).2, (pg_hi h hr hk).2, (pg_hi h hr hk).1, fun k u v hu hv hne => by rw [hu] at hv; exact absurd (Option.some.inj hv) hne⟩
theorem row_refl {s : Sp} (h : s.Good) (x z : Nat) {r : Rm} (hr : r ∈ s.rs) : Rel (Slot (Sim1 x z)) r.ps r.ps :=
  Rel.refl _ (fun y hy => slot_refl y (fun p e => by
    obtain ⟨k, hk⟩ := List.mem_iff_getElem?.1 hy
    exact sim1_refl h x z hr (k := k) (by rw [hk, e])))
theorem sim_refl {s : Sp} (h : s.Good) (x z : Nat) : Sim x z (pgsOf s.rs) (pgsOf s.rs) := by
  have := rooms_rel (R := Sim1 x z) (Rel.refl s.rs (fun r hr => row_refl h x z hr))
  exact ⟨this.1, this.2⟩
theorem wr_sim {s : Sp} (h : s.Good) (x : Nat) (dl : List Int) (i : Nat) {r : Rm} (hr : r ∈ s.rs) {k : Nat} {p : Pg} (hk : r.ps[k]? = some (some p)) : Sim1 x dl.length p (wrPg x dl i p) :=
  ⟨rfl, rfl, (pg_hi h hr hk).2, by simp [wrPg], (pg_hi h hr hk).1, fun o u v hu hv hne => by
    have hlen := (pg_hi h hr hk).2
    have ho : o < 256 := by have := (List.getElem?_eq_some_iff.1 hu).1; omega
    unfold wrPg at hv
    rw [List.getElem?_map, List.getElem?_range ho] at hv
    have hv := Option.some.inj hv
    dsimp only at hv
    split at hv
    · next c => exact c
    · rw [List.getD_eq_getElem?_getD, hu] at hv
      exact absurd hv hne⟩
theorem write_sim {s : Sp} (h : s.Good) (x : Nat) (dl : List Int) : Sim x dl.length (pgsOf s.rs) (pgsOf (writeF s x dl).1.rs) := by
  unfold writeF
  cases hm : mayF s.rs x dl.length 2 with
  | error e => exact sim_refl h _ _
  | ok y =>
    obtain ⟨r, hr, -⟩ := all_row (may_row hm)
    have := rooms_rel (R := Sim1 x dl.length) (l := s.rs) (k := (s.mods y.1 y.2.1 (wrPg x dl) (y.2.2 - y.2.1)).rs) ⟨(mods_len _ _ _ _ _).symm, fun i p q hp hq => by
      by_cases c : y.1 = i
      · subst c
        rw [mods_room hr] at hq
        rw [hr] at hp
        obtain rfl := Option.some.inj hp
        obtain rfl := Option.some.inj hq
        refine ⟨(mods_parts _ _ _ _).2.2.2.symm, fun k a b ha hb => ?_⟩
        rw [mods_at, ha] at hb
        have hmem := List.mem_of_getElem? hr
        split at hb
        · obtain rfl := Option.some.inj hb
          cases a with
          | none => trivial
          | some g => exact wr_sim h x dl _ hmem ha
        · obtain rfl := Option.some.inj hb
          exact slot_refl a (fun p e => sim1_refl h _ _ hmem (k := k) (by rw [ha, e]))
      · rw [mods_other _ _ _ _ _ c, hp] at hq
        obtain rfl := Option.some.inj hq
        exact row_refl h _ _ (List.mem_of_getElem? hp)⟩
    exact ⟨this.1, this.2⟩
/-- Rooms that lie alike, with pages at the same places. -/
def Alike (r q : Rm) : Prop := r.at_ = q.at_ ∧ Rel (fun x y : Option Pg => x.isSome = y.isSome) r.ps q.ps
theorem mods_alike (s : Sp) (j lo : Nat) (f : Nat → Pg → Pg) (n : Nat) : Rel Alike s.rs (s.mods j lo f n).rs :=
  ⟨(mods_len _ _ _ _ _).symm, fun i p q hp hq => by
    by_cases c : j = i
    · subst c
      rw [mods_room hp] at hq
      obtain rfl := Option.some.inj hq
      refine ⟨(mods_parts _ _ _ _).2.2.1.symm, (mods_parts _ _ _ _).2.2.2.symm, fun k a b ha hb => ?_⟩
      rw [mods_at, ha] at hb
      split at hb
      · obtain rfl := Option.some.inj hb
        cases a <;> rfl
      · obtain rfl := Option.some.inj hb
        rfl
    · rw [mods_other _ _ _ _ _ c, hp] at hq
      obtain rfl := Option.some.inj hq
      exact ⟨rfl, Rel.refl _ (fun _ _ => rfl)⟩⟩
theorem alike_behind (x : Nat) : ∀ {l k : List Rm}, Rel Alike l k → behind x l = behind x k
  | [], [], _ => rfl
  | [], _ :: _, h => by have := h.1; simp at this
  | _ :: _, [], h => by have := h.1; simp at this
  | r :: l, q :: k, h => by
    have ih := alike_behind x (l := l) (k := k) ⟨by have := h.1; simpa using this, fun i a b ha hb => h.2 (i + 1) a b (by simpa using ha) (by simpa using hb)⟩
    have h0 := (h.2 0 r q rfl rfl).1
    unfold behind at ih ⊢
    rw [List.takeWhile_cons, List.takeWhile_cons, ← h0]
    split
    · simp [ih]
    · rfl
theorem rel_get {α : Type} {R : α → α → Prop} {P Q : List α} (h : Rel R P Q) {i : Nat} {p : α} (hp : P[i]? = some p) : ∃ q, Q[i]? = some q ∧ R p q := by
  have hi : i < Q.length := by rw [← h.1]; exact (List.getElem?_eq_some_iff.1 hp).1
  exact ⟨Q[i], List.getElem?_eq_getElem hi, h.2 i p _ hp (List.getElem?_eq_getElem hi)⟩
theorem alike_find {l k : List Rm} (h : Rel Alike l k) (x z : Nat) : findRoom l x z = findRoom k x z := by
  unfold findRoom
  rw [alike_behind x h]
  cases behind x k with
  | zero => rfl
  | succ j =>
    simp only []
    cases hr : l[j]? with
    | none =>
      have : k[j]? = none := by
        rw [List.getElem?_eq_none_iff] at hr ⊢
        have := h.1
        omega
      rw [this]
    | some r =>
      obtain ⟨q, hq, ha⟩ := rel_get h hr
      rw [hq]
      simp only []
      unfold inRoom
      rw [ha.1, ha.2.1]
theorem alike_all {ps qs : List (Option Pg)} (h : Rel (fun x y : Option Pg => x.isSome = y.isSome) ps qs) (lo hi : Nat) : ((ps.take hi).drop lo).all Option.isSome = ((qs.take hi).drop lo).all Option.isSome := by
  have e : ps.map Option.isSome = qs.map Option.isSome := by
    refine List.ext_getElem? fun i => ?_
    rw [List.getElem?_map, List.getElem?_map]
    cases hp : ps[i]? with
    | none =>
      have : qs[i]? = none := by
        rw [List.getElem?_eq_none_iff] at hp ⊢
        have := h.1
        omega
      rw [this]
    | some p =>
      obtain ⟨q, hq, hb⟩ := rel_get h hp
      rw [hq]
      exact congrArg some hb
  have f : ∀ l : List (Option Pg), ((l.take hi).drop lo).all Option.isSome = (((l.map Option.isSome).take hi).drop lo).all id := fun l => by
    rw [← List.map_take, ← List.map_drop, List.all_map]
    rfl
  rw [f, f, e]
theorem alike_allF {l k : List Rm} (h : Rel Alike l k) (x z : Nat) : allF l x z = allF k x z := by
  unfold allF
  rw [alike_find h]
  cases findRoom k x z with
  | none => rfl
  | some j =>
    simp only []
    cases hr : l[j]? with
    | none =>
      have : k[j]? = none := by
        rw [List.getElem?_eq_none_iff] at hr ⊢
        have := h.1
        omega
      rw [this]
    | some r =>
      obtain ⟨q, hq, ha⟩ := rel_get h hr
      rw [hq]
      simp only []
      have e1 : hiOf r x z = hiOf q x z := by unfold hiOf; rw [ha.1]
      have e2 : loOf r x = loOf q x := by unfold loOf; rw [ha.1]
      rw [e1, e2, alike_all ha.2]
/-- What was written is read, unless it may not be. -/
theorem read_back {s : Sp} (h : s.Good) (x : Nat) (dl : List Int) (hl : dl.length ≤ 2048) (hw : (writeF s x dl).2 = 0) : readF (writeF s x dl).1.rs x dl.length = (dl, 0) ∨ (readF (writeF s x dl).1.rs x dl.length).2 = 54 := by
  unfold writeF at hw ⊢
  cases hm : mayF s.rs x dl.length 2 with
  | error e =>
    rw [hm] at hw
    have hw : e = 0 := hw
    rcases may_err e hm with h1 | h1 <;> omega
  | ok y =>
    simp only []
    have ha := may_row hm
    obtain ⟨r, hr, h1, h2, h3⟩ := all_row ha
    rw [alike_allF (mods_alike s y.1 y.2.1 (wrPg x dl) (y.2.2 - y.2.1))] at ha
    unfold readF
    rw [if_neg (by omega)]
    unfold mayF
    rw [ha]
    simp only []
    by_cases cc : (pagesOf (s.mods y.1 y.2.1 (wrPg x dl) (y.2.2 - y.2.1)).rs y).all (okB 4) = true
    · rw [if_pos cc]
      left
      refine Prod.ext ?_ rfl
      show bytesAt (s.mods y.1 y.2.1 (wrPg x dl) (y.2.2 - y.2.1)).rs y.1 x dl.length = dl
      unfold bytesAt
      rw [mods_room hr]
      refine List.ext_getElem? fun i => ?_
      rw [List.getElem?_map]
      by_cases c : i < dl.length
      · rw [List.getElem?_range c, List.getElem?_eq_getElem c]
        refine congrArg some ?_
        unfold byteAt
        rw [(mods_parts _ _ _ _).2.2.1]
        dsimp only
        rw [mods_at]
        rcases h3 with ⟨hz, -⟩ | ⟨hz, e1, e2, e3, e4, e5⟩
        · omega
        · have hq1 : y.2.1 ≤ (x + i - r.at_) / 256 := by rw [e1]; unfold loOf; omega
          have hq2 : (x + i - r.at_) / 256 < y.2.2 := by rw [e2]; unfold hiOf pagesN; omega
          obtain ⟨g, hg⟩ := e5 ((x + i - r.at_) / 256 - y.2.1) (by omega)
          rw [show y.2.1 + ((x + i - r.at_) / 256 - y.2.1) = (x + i - r.at_) / 256 from by omega] at hg
          have hat := (page_in (h.rm r (List.mem_of_getElem? hr)) hg).1
          rw [if_pos (by omega), hg]
          simp only [Option.map_some, wrPg]
          have ho : (x + i - r.at_) % 256 < 256 := Nat.mod_lt _ (by decide)
          rw [List.getD_eq_getElem?_getD, List.getElem?_map, List.getElem?_range ho]
          have e : g.at_ + (x + i - r.at_) % 256 = x + i := by omega
          simp only [Option.map_some, Option.getD_some]
          rw [e, if_pos (by omega), Nat.add_sub_cancel_left, List.getD_eq_getElem?_getD, List.getElem?_eq_getElem c]
          rfl
      · rw [List.getElem?_eq_none (by simp; omega), List.getElem?_eq_none (by omega)]
        rfl
    · rw [if_neg cc]
      exact .inr rfl
theorem write_err {s : Sp} {x : Nat} {dl : List Int} (h : (writeF s x dl).2 ≠ 0) : (writeF s x dl).1 = s := by
  unfold writeF at h ⊢
  split
  · rfl
  · next y hm => rw [hm] at h; exact absurd rfl h
/-- What is refused turns nothing. -/
theorem Done.err {s s' : Sp} {x : Nat} {p : Opn} {hint : Nat} {o : Out} (h : Done s x p hint s' o) (he : o.e ≠ 0) : s' = s := by
  rcases h with ⟨-, b, ab, rfl, rfl⟩ | ⟨-, nb, rfl, rfl⟩ | ⟨-, rfl, rfl⟩ | ⟨-, rfl, rfl⟩ | ⟨-, rfl, -⟩ | ⟨-, rfl, rfl⟩ | ⟨-, rfl, -⟩ | ⟨-, rfl, rfl⟩
  · unfold reserveF at he ⊢
    split
    · rfl
    · next c =>
      rw [if_neg c] at he
      split
      · rfl
      · next c2 => rw [if_neg c2] at he; exact absurd rfl he
  · simp only [] at he
    unfold mapF at he ⊢
    repeat' split
    all_goals first | rfl | (exfalso; simp_all)
  · simp only [] at he
    unfold protF at he ⊢
    repeat' split
    all_goals first | rfl | (exfalso; simp_all)
  · simp only [] at he
    unfold releaseF at he ⊢
    repeat' split
    all_goals first | rfl | (exfalso; simp_all)
  · rfl
  · exact write_err he
  · rfl
  · exact write_err he
end Go.Proofs.Ytmpahimeljbliaa.Vm
