/- Two spaces whose rooms lie elsewhere but hold the same: of plain lists. No condition beyond those of each lemma. -/
import Derived.Test.YtmpahimeljbliaaVmBack
namespace Go.Proofs.Ytmpahimeljbliaa.Vm

abbrev Vw := Option (Nat × List Int)
def view (x : Option Pg) : Vw := x.map fun p => (p.prot, p.data)
/-- What a room holds, wherever it lies. -/
def Rm.V (r : Rm) : List Vw := r.ps.map view
theorem view_some (x : Option Pg) : (view x).isSome = x.isSome := by cases x <;> rfl
def okV (p : Nat) : Vw → Bool
  | none => false
  | some g => decide (g.1 &&& p = p)
theorem view_ok (p : Nat) (x : Option Pg) : okV p (view x) = okB p x := by cases x <;> rfl
def partV (vs : List Vw) (off z : Nat) : List Vw := (vs.take (pagesN (off + z))).drop (off / 256)
theorem part_view (r : Rm) (off z : Nat) : partV r.V off z = ((r.ps.take (pagesN (off + z))).drop (off / 256)).map view := by
  unfold partV Rm.V
  rw [List.map_drop, List.map_take]
theorem behind_room {s : Sp} (h : s.Good) {j : Nat} {r : Rm} (hj : s.rs[j]? = some r) {x : Nat} (h1 : r.at_ ≤ x) (h2 : x < r.fin) : behind x s.rs = j + 1 := by
  have a1 : ¬ behind x s.rs ≤ j := fun c => by have := (h.behind_iff x hj).2 c; omega
  have a2 := behind_le x s.rs
  have hjl := (List.getElem?_eq_some_iff.1 hj).1
  by_cases c : j + 1 < s.rs.length
  · have hq := List.getElem?_eq_getElem c
    have := h.apart hj hq (Nat.lt_succ_self j)
    have := (h.behind_iff x hq).1 (by omega)
    omega
  · omega
theorem find_in {s : Sp} (h : s.Good) {j : Nat} {r : Rm} (hj : s.rs[j]? = some r) {off z : Nat} (hz : 0 < z) (hl : off + z ≤ r.ps.length * 256) : findRoom s.rs (r.at_ + off) z = some j := by
  unfold findRoom
  rw [behind_room h hj (Nat.le_add_right _ _) (by unfold Rm.fin; omega)]
  simp only [hj]
  rw [if_pos (by unfold inRoom; exact decide_eq_true ⟨by omega, by omega, by omega⟩)]
theorem find_zero {s : Sp} (h : s.Good) {j : Nat} {r : Rm} (hj : s.rs[j]? = some r) {off : Nat} (hl : off ≤ r.ps.length * 256) : ∃ i, findRoom s.rs (r.at_ + off) 0 = some i := by
  by_cases c : off < r.ps.length * 256
  · refine ⟨j, ?_⟩
    unfold findRoom
    rw [behind_room h hj (Nat.le_add_right _ _) (by unfold Rm.fin; omega)]
    simp only [hj]
    rw [if_pos (by unfold inRoom; exact decide_eq_true ⟨by omega, by omega, by omega⟩)]
  · have hjl := (List.getElem?_eq_some_iff.1 hj).1
    have a1 : ¬ behind (r.at_ + off) s.rs ≤ j := fun d => by have := (h.behind_iff (r.at_ + off) hj).2 d; omega
    have a2 := behind_le (r.at_ + off) s.rs
    have hstay : behind (r.at_ + off) s.rs = j + 1 → ∃ i, findRoom s.rs (r.at_ + off) 0 = some i := fun e => by
      refine ⟨j, ?_⟩
      unfold findRoom
      rw [e]
      simp only [hj]
      rw [if_pos (by unfold inRoom; exact decide_eq_true ⟨by omega, by omega, by omega⟩)]
    by_cases d : j + 1 < s.rs.length
    · have hq := List.getElem?_eq_getElem d
      have hap := h.apart hj hq (Nat.lt_succ_self j)
      by_cases e : s.rs[j + 1].at_ = r.at_ + off
      · have hql := (h.rm _ (List.getElem_mem d)).l1
        refine ⟨j + 1, ?_⟩
        unfold findRoom
        rw [behind_room h hq (by omega) (by unfold Rm.fin; omega)]
        simp only [hq]
        rw [if_pos (by unfold inRoom; exact decide_eq_true ⟨by omega, by omega, by omega⟩)]
      · have := (h.behind_iff (r.at_ + off) hq).1 (by unfold Rm.fin at hap; omega)
        exact hstay (by omega)
    · exact hstay (by omega)
theorem all_room {s : Sp} (h : s.Good) {j : Nat} {r : Rm} (hj : s.rs[j]? = some r) {off z : Nat} (hz : 0 < z) (hl : off + z ≤ r.ps.length * 256) :
    allF s.rs (r.at_ + off) z = if (partV r.V off z).all Option.isSome = true then some (j, off / 256, pagesN (off + z)) else none := by
  unfold allF
  rw [find_in h hj hz hl]
  simp only [hj]
  rw [if_neg (by omega)]
  have e1 : hiOf r (r.at_ + off) z = pagesN (off + z) := by unfold hiOf; rw [Nat.add_sub_cancel_left]
  have e2 : loOf r (r.at_ + off) = off / 256 := by unfold loOf; rw [Nat.add_sub_cancel_left]
  rw [e1, e2, part_view, List.all_map]
  have : (Option.isSome ∘ view) = Option.isSome := funext view_some
  rw [this]
theorem all_zero {s : Sp} (h : s.Good) {j : Nat} {r : Rm} (hj : s.rs[j]? = some r) {off : Nat} (hl : off ≤ r.ps.length * 256) : ∃ i, allF s.rs (r.at_ + off) 0 = some (i, 0, 0) := by
  obtain ⟨i, hi⟩ := find_zero h hj hl
  obtain ⟨q, hq, -⟩ := find_some hi
  refine ⟨i, ?_⟩
  unfold allF
  rw [hi]
  simp only [hq]
  rfl
/-- May it be done, of what a room holds. -/
def mayV (vs : List Vw) (off z p : Nat) : Int :=
  if z = 0 then 0 else if (partV vs off z).all Option.isSome = true then (if (partV vs off z).all (okV p) = true then 0 else 54) else 52
def errOf {α : Type} : Except Int α → Int
  | .error e => e
  | .ok _ => 0
theorem may_room {s : Sp} (h : s.Good) {j : Nat} {r : Rm} (hj : s.rs[j]? = some r) {off z : Nat} (p : Nat) (hl : off + z ≤ r.ps.length * 256) :
    errOf (mayF s.rs (r.at_ + off) z p) = mayV r.V off z p ∧ ∀ y, mayF s.rs (r.at_ + off) z p = .ok y → mayV r.V off z p = 0 ∧ ((z = 0 ∧ y.2.1 = 0 ∧ y.2.2 = 0) ∨ (0 < z ∧ y = (j, off / 256, pagesN (off + z)))) := by
  unfold mayV
  by_cases hz : z = 0
  · subst hz
    obtain ⟨i, hi⟩ := all_zero h hj (off := off) (by omega)
    have hp : pagesOf s.rs (i, 0, 0) = [] := by
      unfold pagesOf
      split <;> simp
    have hm : mayF s.rs (r.at_ + off) 0 p = .ok (i, 0, 0) := by
      unfold mayF
      rw [hi]
      simp only []
      rw [hp]
      rfl
    rw [hm, if_pos rfl]
    exact ⟨rfl, fun y hy => ⟨rfl, .inl ⟨rfl, by cases hy; exact ⟨rfl, rfl⟩⟩⟩⟩
  · have ha := all_room h hj (off := off) (z := z) (by omega) hl
    rw [if_neg hz]
    by_cases c : (partV r.V off z).all Option.isSome = true
    · rw [if_pos c] at ha ⊢
      have hp : (pagesOf s.rs (j, off / 256, pagesN (off + z))).all (okB p) = (partV r.V off z).all (okV p) := by
        unfold pagesOf
        rw [part_view, List.all_map]
        simp only [hj]
        rw [show okV p ∘ view = okB p from funext (view_ok p)]
      have hm : mayF s.rs (r.at_ + off) z p = if (partV r.V off z).all (okV p) = true then .ok (j, off / 256, pagesN (off + z)) else .error 54 := by
        unfold mayF
        rw [ha]
        simp only []
        rw [hp]
      rw [hm]
      by_cases d : (partV r.V off z).all (okV p) = true
      · rw [if_pos d, if_pos d]
        exact ⟨rfl, fun y hy => ⟨rfl, .inr ⟨by omega, by cases hy; rfl⟩⟩⟩
      · rw [if_neg d, if_neg d]
        exact ⟨rfl, fun y hy => by cases hy⟩
    · rw [if_neg c] at ha ⊢
      have hm : mayF s.rs (r.at_ + off) z p = .error 52 := by
        unfold mayF
        rw [ha]
      rw [hm]
      exact ⟨rfl, fun y hy => by cases hy⟩
/-- The bytes of what a room holds. -/
def byteV (vs : List Vw) (o : Nat) : Int :=
  match vs[o / 256]? with
  | some (some g) => g.2.getD (o % 256) 0
  | _ => 0
theorem byte_view (r : Rm) (o : Nat) : byteAt r (r.at_ + o) = byteV r.V o := by
  unfold byteAt byteV Rm.V
  rw [Nat.add_sub_cancel_left, List.getElem?_map]
  cases r.ps[o / 256]? with
  | none => rfl
  | some x => cases x <;> rfl
def readV (vs : List Vw) (off z : Nat) : List Int × Int :=
  if z > 16384 then ([], 52) else if mayV vs off z 4 = 0 then ((List.range z).map fun i => byteV vs (off + i), 0) else ([], mayV vs off z 4)
theorem read_room {s : Sp} (h : s.Good) {j : Nat} {r : Rm} (hj : s.rs[j]? = some r) {off z : Nat} (hl : off + z ≤ r.ps.length * 256) : readF s.rs (r.at_ + off) z = readV r.V off z := by
  unfold readF readV
  by_cases c : z > 16384
  · rw [if_pos c, if_pos c]
  · rw [if_neg c, if_neg c]
    obtain ⟨h1, h2⟩ := may_room h hj (off := off) (z := z) 4 hl
    cases hm : mayF s.rs (r.at_ + off) z 4 with
    | error e =>
      rw [hm] at h1
      have h1 : e = mayV r.V off z 4 := h1
      rw [← h1]
      simp only []
      rw [if_neg (by rcases may_err e hm with x | x <;> omega)]
    | ok y =>
      obtain ⟨h3, h4⟩ := h2 y hm
      simp only []
      rw [if_pos h3]
      refine Prod.ext ?_ rfl
      show bytesAt s.rs y.1 (r.at_ + off) z = _
      rcases h4 with ⟨rfl, -⟩ | ⟨hz, rfl⟩
      · unfold bytesAt
        split <;> rfl
      · unfold bytesAt
        simp only [hj]
        exact List.map_congr_left (fun i _ => by rw [Nat.add_assoc, byte_view])
theorem load_room {s : Sp} (h : s.Good) {j : Nat} {r : Rm} (hj : s.rs[j]? = some r) {off : Nat} (hl : off + 8 ≤ r.ps.length * 256) : loadF s.rs (r.at_ + off) = if (readV r.V off 8).2 = 0 then (leN (readV r.V off 8).1, 0) else (0, (readV r.V off 8).2) := by
  unfold loadF
  rw [read_room h hj hl]
/-- A space with one room in another's place. -/
def Sp.put (s : Sp) (j : Nat) (r : Rm) : Sp := { s with rs := s.rs.set j r }
theorem mods_put {s : Sp} {j : Nat} {r : Rm} (hj : s.rs[j]? = some r) (lo : Nat) (f : Nat → Pg → Pg) (n : Nat) : (s.mods j lo f n).rs = (s.rs.set j (r.mods lo f n)) := by
  refine List.ext_getElem? fun i => ?_
  rw [List.getElem?_set]
  by_cases c : j = i
  · subst c
    rw [mods_room hj, if_pos rfl, if_pos (List.getElem?_eq_some_iff.1 hj).1]
  · rw [mods_other _ _ _ _ _ c, if_neg c]
theorem adds_put {s : Sp} {j : Nat} {r : Rm} (hj : s.rs[j]? = some r) (lo : Nat) (f : Nat → Pg) (n : Nat) : (s.adds j lo f n).rs = (s.rs.set j (r.adds lo f n)) := by
  refine List.ext_getElem? fun i => ?_
  rw [List.getElem?_set]
  by_cases c : j = i
  · subst c
    rw [adds_room hj, if_pos rfl, if_pos (List.getElem?_eq_some_iff.1 hj).1]
  · rw [adds_other _ _ _ _ _ c, if_neg c]
theorem mods_used (s : Sp) (j lo : Nat) (f : Nat → Pg → Pg) : ∀ n, (s.mods j lo f n).used = s.used ∧ (s.mods j lo f n).budget = s.budget
  | 0 => ⟨rfl, rfl⟩
  | n + 1 => mods_used s j lo f n
theorem adds_used (s : Sp) (j lo : Nat) (f : Nat → Pg) : ∀ n, (s.adds j lo f n).used = s.used ∧ (s.adds j lo f n).budget = s.budget
  | 0 => ⟨rfl, rfl⟩
  | n + 1 => adds_used s j lo f n
theorem sp_ext {s q : Sp} (h1 : s.budget = q.budget) (h2 : s.used = q.used) (h3 : s.rs = q.rs) : s = q := by
  cases s; cases q; simp_all
theorem mods_sp {s : Sp} {j : Nat} {r : Rm} (hj : s.rs[j]? = some r) (lo : Nat) (f : Nat → Pg → Pg) (n : Nat) : s.mods j lo f n = s.put j (r.mods lo f n) :=
  sp_ext (mods_used s j lo f n).2 (mods_used s j lo f n).1 (mods_put hj lo f n)
theorem adds_sp {s : Sp} {j : Nat} {r : Rm} (hj : s.rs[j]? = some r) (lo : Nat) (f : Nat → Pg) (n : Nat) : s.adds j lo f n = s.put j (r.adds lo f n) :=
  sp_ext (adds_used s j lo f n).2 (adds_used s j lo f n).1 (adds_put hj lo f n)
theorem put_self {s : Sp} {j : Nat} {r : Rm} (hj : s.rs[j]? = some r) : s.put j r = s := by
  refine sp_ext rfl rfl ?_
  refine List.ext_getElem? fun i => ?_
  show (s.rs.set j r)[i]? = _
  rw [List.getElem?_set]
  by_cases c : j = i
  · subst c
    rw [if_pos rfl, if_pos (List.getElem?_eq_some_iff.1 hj).1, hj]
  · rw [if_neg c]
/-- The same turn of what a room holds. -/
def setV (p : Nat) (lo n : Nat) (vs : List Vw) : List Vw := vs.mapIdx fun k v => if lo ≤ k ∧ k < lo + n then v.map (fun g => (p, g.2)) else v
def wrV (off : Nat) (dl : List Int) (lo n : Nat) (vs : List Vw) : List Vw := vs.mapIdx fun k v => if lo ≤ k ∧ k < lo + n then v.map (fun g => (g.1, (List.range 256).map fun o => if off ≤ 256 * k + o ∧ 256 * k + o < off + dl.length then dl.getD (256 * k + o - off) 0 else g.2.getD o 0)) else v
def newV (p : Nat) (dl : List Int) (lo n : Nat) (vs : List Vw) : List Vw := vs.mapIdx fun k v => if lo ≤ k ∧ k < lo + n then some (p, (List.range 256).map fun o => dl.getD (256 * (k - lo) + o) 0) else v
theorem set_view (r : Rm) (p lo n : Nat) : (r.mods lo (setProt p) n).V = setV p lo n r.V := by
  refine List.ext_getElem? fun k => ?_
  unfold Rm.V setV
  rw [List.getElem?_map, mods_at, List.getElem?_mapIdx, List.getElem?_map]
  by_cases c : lo ≤ k ∧ k < lo + n
  · rw [if_pos c]
    cases r.ps[k]? with
    | none => rfl
    | some x => simp only [Option.map_some, if_pos c]; cases x <;> rfl
  · rw [if_neg c]
    cases r.ps[k]? with
    | none => rfl
    | some x => simp only [Option.map_some, if_neg c]
theorem wr_view {r : Rm} (hr : r.Good) (off : Nat) (dl : List Int) (lo n : Nat) : (r.mods lo (wrPg (r.at_ + off) dl) n).V = wrV off dl lo n r.V := by
  refine List.ext_getElem? fun k => ?_
  unfold Rm.V wrV
  rw [List.getElem?_map, mods_at, List.getElem?_mapIdx, List.getElem?_map]
  by_cases c : lo ≤ k ∧ k < lo + n
  · rw [if_pos c]
    cases hk : r.ps[k]? with
    | none => rfl
    | some x =>
      simp only [Option.map_some, if_pos c]
      cases x with
      | none => rfl
      | some g =>
        have hg := (page_in hr hk).1
        refine congrArg some (congrArg some (Prod.ext rfl ?_))
        unfold wrPg
        dsimp only
        refine List.map_congr_left fun o _ => ?_
        by_cases d : off ≤ 256 * k + o ∧ 256 * k + o < off + dl.length
        · rw [if_pos d, if_pos (by omega), show g.at_ + o - (r.at_ + off) = 256 * k + o - off from by omega]
        · rw [if_neg d, if_neg (by omega)]
  · rw [if_neg c]
    cases r.ps[k]? with
    | none => rfl
    | some x => simp only [Option.map_some, if_neg c]
theorem new_view (r : Rm) (x p : Nat) (dl : List Int) (nb : Nat → Nat) (lo n : Nat) (hl : lo + n ≤ r.ps.length) : (r.adds lo (newPg x p dl nb) n).V = newV p dl lo n r.V := by
  refine List.ext_getElem? fun k => ?_
  unfold Rm.V newV
  rw [List.getElem?_map, adds_get _ _ _ _ _ hl, List.getElem?_mapIdx, List.getElem?_map]
  by_cases c : lo ≤ k ∧ k < lo + n
  · rw [if_pos c, List.getElem?_eq_getElem (show k < r.ps.length by omega)]
    simp only [Option.map_some, if_pos c]
    rfl
  · rw [if_neg c]
    cases r.ps[k]? with
    | none => rfl
    | some x => simp only [Option.map_some, if_neg c]
theorem mods_n0 (s : Sp) (j lo : Nat) (f : Nat → Pg → Pg) : s.mods j lo f 0 = s := rfl
/-- A write, of what a room holds. -/
def writeV (vs : List Vw) (off : Nat) (dl : List Int) : List Vw := if mayV vs off dl.length 2 = 0 ∧ dl.length ≠ 0 then wrV off dl (off / 256) (pagesN (off + dl.length) - off / 256) vs else vs
theorem write_room {s : Sp} (h : s.Good) {j : Nat} {r : Rm} (hj : s.rs[j]? = some r) {off : Nat} (dl : List Int) (hl : off + dl.length ≤ r.ps.length * 256) :
    ∃ r', (writeF s (r.at_ + off) dl).1 = s.put j r' ∧ r'.at_ = r.at_ ∧ r'.ps.length = r.ps.length ∧ r'.V = writeV r.V off dl ∧ (writeF s (r.at_ + off) dl).2 = mayV r.V off dl.length 2 := by
  obtain ⟨h1, h2⟩ := may_room h hj (off := off) (z := dl.length) 2 hl
  unfold writeF writeV
  cases hm : mayF s.rs (r.at_ + off) dl.length 2 with
  | error e =>
    rw [hm] at h1
    have h1 : e = mayV r.V off dl.length 2 := h1
    refine ⟨r, (put_self hj).symm, rfl, rfl, ?_, h1⟩
    rw [if_neg (by rcases may_err e hm with x | x <;> omega)]
  | ok y =>
    obtain ⟨h3, h4⟩ := h2 y hm
    rcases h4 with ⟨hz, e1, e2⟩ | ⟨hz, rfl⟩
    · refine ⟨r, ?_, rfl, rfl, ?_, h3.symm⟩
      · simp only []
        rw [e1, e2, put_self hj]
        rfl
      · rw [if_neg (by omega)]
    · refine ⟨r.mods (off / 256) (wrPg (r.at_ + off) dl) (pagesN (off + dl.length) - off / 256), mods_sp hj _ _ _, (mods_parts _ _ _ _).2.2.1, (mods_parts _ _ _ _).2.2.2, ?_, h3.symm⟩
      rw [if_pos ⟨h3, by omega⟩]
      exact wr_view (h.rm r (List.mem_of_getElem? hj)) off dl _ _
def protV (vs : List Vw) (off z : Nat) (p : Int) : List Vw × Int :=
  if off % 256 = 0 then if 0 ≤ p ∧ p ≤ 7 then if z = 0 then (vs, 0) else if (partV vs off z).all Option.isSome = true then (setV p.toNat (off / 256) (pagesN (off + z) - off / 256) vs, 0) else (vs, 52) else (vs, 54) else (vs, 11)
theorem prot_room {s : Sp} (h : s.Good) {j : Nat} {r : Rm} (hj : s.rs[j]? = some r) {off z : Nat} (p : Int) (hl : off + z ≤ r.ps.length * 256) :
    ∃ r', (protF s (r.at_ + off) z p).1 = s.put j r' ∧ r'.at_ = r.at_ ∧ r'.ps.length = r.ps.length ∧ r'.V = (protV r.V off z p).1 ∧ (protF s (r.at_ + off) z p).2 = (protV r.V off z p).2 := by
  have hal := (h.rm r (List.mem_of_getElem? hj)).al
  unfold protF protV
  by_cases c1 : off % 256 = 0
  · rw [if_pos (show (r.at_ + off) % 256 = 0 by omega), if_pos c1]
    by_cases c2 : 0 ≤ p ∧ p ≤ 7
    · rw [if_pos c2, if_pos c2]
      by_cases hz : z = 0
      · subst hz
        obtain ⟨i, hi⟩ := all_zero h hj (off := off) (by omega)
        rw [hi, if_pos rfl]
        exact ⟨r, (put_self hj).symm, rfl, rfl, rfl, rfl⟩
      · rw [all_room h hj (by omega) hl, if_neg hz]
        by_cases c3 : (partV r.V off z).all Option.isSome = true
        · rw [if_pos c3, if_pos c3]
          exact ⟨_, mods_sp hj _ _ _, (mods_parts _ _ _ _).2.2.1, (mods_parts _ _ _ _).2.2.2, set_view _ _ _ _, rfl⟩
        · rw [if_neg c3, if_neg c3]
          exact ⟨r, (put_self hj).symm, rfl, rfl, rfl, rfl⟩
    · rw [if_neg c2, if_neg c2]
      exact ⟨r, (put_self hj).symm, rfl, rfl, rfl, rfl⟩
  · rw [if_neg (show ¬ (r.at_ + off) % 256 = 0 by omega), if_neg c1]
    exact ⟨r, (put_self hj).symm, rfl, rfl, rfl, rfl⟩
def mapV (vs : List Vw) (off z : Nat) (p : Int) (dl : List Int) : List Vw × Int :=
  if off % 256 = 0 then if z = 0 ∨ dl.length > z then (vs, 51) else if 0 ≤ p ∧ p ≤ 7 then if (partV vs off z).any Option.isSome = true then (vs, 53) else (newV p.toNat dl (off / 256) (pagesN (off + z) - off / 256) vs, 0) else (vs, 54) else (vs, 11)
theorem map_room {s : Sp} (h : s.Good) {j : Nat} {r : Rm} (hj : s.rs[j]? = some r) {off z : Nat} (p : Int) (dl : List Int) (nb : Nat → Nat) (hl : off + z ≤ r.ps.length * 256) :
    ∃ r', (mapF s (r.at_ + off) z p dl nb).1 = s.put j r' ∧ r'.at_ = r.at_ ∧ r'.ps.length = r.ps.length ∧ r'.V = (mapV r.V off z p dl).1 ∧ (mapF s (r.at_ + off) z p dl nb).2 = (mapV r.V off z p dl).2 := by
  have hal := (h.rm r (List.mem_of_getElem? hj)).al
  unfold mapF mapV
  by_cases c1 : off % 256 = 0
  · rw [if_pos (show (r.at_ + off) % 256 = 0 by omega), if_pos c1]
    by_cases c2 : z = 0 ∨ dl.length > z
    · rw [if_pos c2, if_pos c2]
      exact ⟨r, (put_self hj).symm, rfl, rfl, rfl, rfl⟩
    · rw [if_neg c2, if_neg c2]
      by_cases c3 : 0 ≤ p ∧ p ≤ 7
      · rw [if_pos c3, if_pos c3, find_in h hj (by omega) hl]
        simp only [hj]
        have e1 : hiOf r (r.at_ + off) z = pagesN (off + z) := by unfold hiOf; rw [Nat.add_sub_cancel_left]
        have e2 : loOf r (r.at_ + off) = off / 256 := by unfold loOf; rw [Nat.add_sub_cancel_left]
        have e3 : ((r.ps.take (pagesN (off + z))).drop (off / 256)).any Option.isSome = (partV r.V off z).any Option.isSome := by
          rw [part_view, List.any_map, show Option.isSome ∘ view = Option.isSome from funext view_some]
        rw [e1, e2, e3]
        by_cases c4 : (partV r.V off z).any Option.isSome = true
        · rw [if_pos c4, if_pos c4]
          exact ⟨r, (put_self hj).symm, rfl, rfl, rfl, rfl⟩
        · rw [if_neg c4, if_neg c4]
          exact ⟨_, adds_sp hj _ _ _, (adds_parts _ _ _ _).2.2.1, (adds_parts _ _ _ _).2.2.2, new_view _ _ _ _ _ _ _ (by unfold pagesN; omega), rfl⟩
      · rw [if_neg c3, if_neg c3]
        exact ⟨r, (put_self hj).symm, rfl, rfl, rfl, rfl⟩
  · rw [if_neg (show ¬ (r.at_ + off) % 256 = 0 by omega), if_neg c1]
    exact ⟨r, (put_self hj).symm, rfl, rfl, rfl, rfl⟩
/-- How many pages are there. -/
def cntV (vs : List Vw) : Nat := vs.countP Option.isSome
def cnt (l : List Rm) : Nat := (l.map fun r => cntV r.V).sum
theorem cnt_pgs : ∀ l : List Rm, (pgsOf l).length = cnt l
  | [] => rfl
  | r :: l => by
    have ih := cnt_pgs l
    have hr : (pgsR r).length = cntV r.V := by
      unfold pgsR cntV Rm.V
      rw [List.countP_map, show Option.isSome ∘ view = Option.isSome from funext view_some]
      generalize r.ps = ps
      induction ps with
      | nil => rfl
      | cons x ps ih2 => cases x <;> simp_all
    rw [show pgsOf (r :: l) = pgsR r ++ pgsOf l from rfl, List.length_append, ih, hr]
    simp [cnt]
theorem cnt_set : ∀ (l : List Rm) (j : Nat) (r r' : Rm), l[j]? = some r → cnt (l.set j r') + cntV r.V = cnt l + cntV r'.V
  | [], j, r, r', h => by simp at h
  | q :: l, 0, r, r', h => by
    obtain rfl : q = r := by simpa using h
    simp [cnt]
    omega
  | q :: l, j + 1, r, r', h => by
    have ih := cnt_set l j r r' (by simpa using h)
    simp only [cnt, List.set_cons_succ, List.map_cons, List.sum_cons] at ih ⊢
    omega
/-- Two spaces with the same in other places. -/
structure Tw (sa sb : Sp) (xs ys ns : List Nat) : Prop where
  bud : sa.budget = sb.budget
  used : sa.used = sb.used
  cnt : cnt sa.rs = cnt sb.rs
  lx : xs.length = ns.length
  ly : ys.length = ns.length
  each : ∀ (i x y n : Nat), xs[i]? = some x → ys[i]? = some y → ns[i]? = some n → ∃ (j : Nat) (r : Rm) (k : Nat) (q : Rm), sa.rs[j]? = some r ∧ sb.rs[k]? = some q ∧ r.at_ = x ∧ q.at_ = y ∧ r.ps.length = n ∧ r.V = q.V
  dx : ∀ (i k x : Nat), xs[i]? = some x → xs[k]? = some x → i = k
  dy : ∀ (i k y : Nat), ys[i]? = some y → ys[k]? = some y → i = k
theorem Tw.put {sa sb : Sp} {xs ys ns : List Nat} (h : Tw sa sb xs ys ns) {i x y n : Nat} (hx : xs[i]? = some x) (hy : ys[i]? = some y) (hn : ns[i]? = some n) {j k : Nat} {r q r' q' : Rm} (hj : sa.rs[j]? = some r) (hk : sb.rs[k]? = some q) (hrx : r.at_ = x) (hqy : q.at_ = y) (hrn : r.ps.length = n) (hV : r.V = q.V)
    (h1 : r'.at_ = r.at_) (h2 : r'.ps.length = r.ps.length) (h3 : q'.at_ = q.at_) (hV' : r'.V = q'.V) : Tw (sa.put j r') (sb.put k q') xs ys ns := by
  refine ⟨h.bud, h.used, ?_, h.lx, h.ly, fun i2 x2 y2 n2 hx2 hy2 hn2 => ?_, h.dx, h.dy⟩
  · have a := cnt_set sa.rs j r r' hj
    have b := cnt_set sb.rs k q q' hk
    have c := h.cnt
    rw [hV] at a
    rw [hV'] at a
    show Vm.cnt (sa.rs.set j r') = Vm.cnt (sb.rs.set k q')
    omega
  · obtain ⟨j2, r2, k2, q2, a1, a2, a3, a4, a5, a6⟩ := h.each i2 x2 y2 n2 hx2 hy2 hn2
    have hjl := (List.getElem?_eq_some_iff.1 hj).1
    have hkl := (List.getElem?_eq_some_iff.1 hk).1
    by_cases c : i2 = i
    · subst c
      rw [hx] at hx2
      rw [hy] at hy2
      obtain rfl := Option.some.inj hx2
      obtain rfl := Option.some.inj hy2
      rw [hn] at hn2
      obtain rfl := Option.some.inj hn2
      exact ⟨j, r', k, q', by show (sa.rs.set j r')[j]? = _; rw [List.getElem?_set, if_pos rfl, if_pos hjl], by show (sb.rs.set k q')[k]? = _; rw [List.getElem?_set, if_pos rfl, if_pos hkl], by rw [h1, hrx], by rw [h3, hqy], by rw [h2, hrn], hV'⟩
    · have c1 : j2 ≠ j := fun e => by
        subst e
        rw [hj] at a1
        obtain rfl := Option.some.inj a1
        exact c (h.dx _ _ _ hx2 (by rw [hx, ← hrx, a3]))
      have c2 : k2 ≠ k := fun e => by
        subst e
        rw [hk] at a2
        obtain rfl := Option.some.inj a2
        exact c (h.dy _ _ _ hy2 (by rw [hy, ← hqy, a4]))
      exact ⟨j2, r2, k2, q2, by show (sa.rs.set j r')[j2]? = _; rw [List.getElem?_set, if_neg (Ne.symm c1)]; exact a1, by show (sb.rs.set k q')[k2]? = _; rw [List.getElem?_set, if_neg (Ne.symm c2)]; exact a2, a3, a4, a5, a6⟩
theorem put_get {l : List Rm} {r : Rm} : (putRoom l r)[behind r.at_ l]? = some r := by
  have := behind_le r.at_ l
  unfold putRoom
  rw [List.getElem?_append_right (by rw [List.length_take]; omega), List.length_take, show behind r.at_ l - min (behind r.at_ l) l.length = 0 from by omega]
  rfl
theorem put_old {l : List Rm} {r q : Rm} {i : Nat} (h : l[i]? = some q) : (putRoom l r)[if i < behind r.at_ l then i else i + 1]? = some q := by
  have := behind_le r.at_ l
  unfold putRoom
  by_cases c : i < behind r.at_ l
  · rw [if_pos c, List.getElem?_append_left (by rw [List.length_take]; omega), List.getElem?_take_of_lt c, h]
  · rw [if_neg c, List.getElem?_append_right (by rw [List.length_take]; omega), List.length_take, show i + 1 - min (behind r.at_ l) l.length = (i - behind r.at_ l) + 1 from by omega, List.getElem?_cons_succ, List.getElem?_drop, show behind r.at_ l + (i - behind r.at_ l) = i from by omega, h]
theorem cnt_append (l k : List Rm) : cnt (l ++ k) = cnt l + cnt k := by simp [cnt]
theorem cnt_put (l : List Rm) (r : Rm) : cnt (putRoom l r) = cnt l + cntV r.V := by
  have h : cnt l = cnt (l.take (behind r.at_ l)) + cnt (l.drop (behind r.at_ l)) := by
    rw [← cnt_append, List.take_append_drop]
  rw [h]
  simp [cnt, putRoom]
  omega
def emptyRm (b ab x pages : Nat) : Rm := ⟨b, ab, x, List.replicate pages none⟩
theorem empty_V (b ab x pages : Nat) : (emptyRm b ab x pages).V = List.replicate pages none := by
  unfold Rm.V emptyRm
  rw [List.map_replicate]
  rfl
theorem cnt_empty (pages : Nat) : cntV (List.replicate pages none) = 0 := by
  unfold cntV
  rw [List.countP_eq_zero]
  intro x hx
  rw [(List.mem_replicate.1 hx).2]
  simp
theorem get_snoc {l : List Nat} {x y i : Nat} (h : (l ++ [x])[i]? = some y) : l[i]? = some y ∨ (i = l.length ∧ y = x) := by
  rcases Nat.lt_or_ge i l.length with c | c
  · rw [List.getElem?_append_left c] at h
    exact .inl h
  · rw [List.getElem?_append_right c] at h
    rcases e : i - l.length with _ | m
    · rw [e] at h
      simp at h
      exact .inr ⟨by omega, h.symm⟩
    · rw [e] at h
      simp at h
/-- The places so far are beginnings of rooms: what a new room begins at is none of them. -/
theorem new_apart {s : Sp} (h : s.Good) {hint pages b ab : Nat} (h1 : 1 ≤ pages) (h2 : pages ≤ 64) (hu : s.used + pages ≤ s.budget) {j : Nat} {r : Rm} (hj : s.rs[j]? = some r) : r.at_ ≠ placeFor s hint pages := fun e => by
  have hg := put_good h hint pages b ab h1 h2 hu
  have a := put_old (r := emptyRm b ab (placeFor s hint pages) pages) hj
  have c := put_get (l := s.rs) (r := emptyRm b ab (placeFor s hint pages) pages)
  have := hg.same (i := if j < behind (emptyRm b ab (placeFor s hint pages) pages).at_ s.rs then j else j + 1) (j := behind (emptyRm b ab (placeFor s hint pages) pages).at_ s.rs) a c e
  split at this <;> omega
theorem Tw.new {sa sb : Sp} {xs ys ns : List Nat} (h : Tw sa sb xs ys ns) (ha : sa.Good) (hb : sb.Good) (hint hint' pages b ab b' ab' : Nat) (h1 : 1 ≤ pages) (h2 : pages ≤ 64) (hu : sa.used + pages ≤ sa.budget) :
    Tw { sa with used := sa.used + pages, rs := putRoom sa.rs (emptyRm b ab (placeFor sa hint pages) pages) } { sb with used := sb.used + pages, rs := putRoom sb.rs (emptyRm b' ab' (placeFor sb hint' pages) pages) } (xs ++ [placeFor sa hint pages]) (ys ++ [placeFor sb hint' pages]) (ns ++ [pages]) := by
  have hu' : sb.used + pages ≤ sb.budget := by have := h.bud; have := h.used; omega
  have fx : ∀ (i x : Nat), xs[i]? = some x → x ≠ placeFor sa hint pages := fun i x hx => by
    have hi := (List.getElem?_eq_some_iff.1 hx).1
    obtain ⟨j, r, k, q, a1, -, rfl, -⟩ := h.each i x _ _ hx (List.getElem?_eq_getElem (by have := h.lx; have := h.ly; omega)) (List.getElem?_eq_getElem (by have := h.lx; omega))
    exact new_apart (b := b) (ab := ab) ha h1 h2 hu a1
  have fy : ∀ (i y : Nat), ys[i]? = some y → y ≠ placeFor sb hint' pages := fun i y hy => by
    have hi := (List.getElem?_eq_some_iff.1 hy).1
    obtain ⟨j, r, k, q, -, a2, -, rfl, -⟩ := h.each i _ y _ (List.getElem?_eq_getElem (by have := h.lx; have := h.ly; omega)) hy (List.getElem?_eq_getElem (by have := h.ly; omega))
    exact new_apart (b := b') (ab := ab') hb h1 h2 hu' a2
  refine ⟨h.bud, by show sa.used + pages = sb.used + pages; rw [h.used], ?_, by simp [h.lx], by simp [h.ly], fun i x y n hx hy hn => ?_, fun i k x hi hk => ?_, fun i k y hi hk => ?_⟩
  · show Vm.cnt (putRoom _ _) = Vm.cnt (putRoom _ _)
    rw [cnt_put, cnt_put, empty_V, empty_V, h.cnt]
  · rcases get_snoc hx with hx | ⟨rfl, rfl⟩
    · have hi := (List.getElem?_eq_some_iff.1 hx).1
      have hy : ys[i]? = some y := by
        rcases get_snoc hy with hy | ⟨e, -⟩
        · exact hy
        · have := h.lx; have := h.ly; omega
      have hn : ns[i]? = some n := by
        rcases get_snoc hn with hn | ⟨e, -⟩
        · exact hn
        · have := h.lx; omega
      obtain ⟨j, r, k, q, a1, a2, a3, a4, a5, a6⟩ := h.each i x y n hx hy hn
      exact ⟨_, r, _, q, put_old a1, put_old a2, a3, a4, a5, a6⟩
    · have hy : y = placeFor sb hint' pages := by
        rcases get_snoc hy with hy | ⟨-, e⟩
        · have := (List.getElem?_eq_some_iff.1 hy).1
          have := h.lx; have := h.ly; omega
        · exact e
      have hn : n = pages := by
        rcases get_snoc hn with hn | ⟨-, e⟩
        · have := (List.getElem?_eq_some_iff.1 hn).1
          have := h.lx; omega
        · exact e
      subst hy hn
      exact ⟨_, _, _, _, put_get, put_get, rfl, rfl, by simp [emptyRm], by rw [empty_V, empty_V]⟩
  · rcases get_snoc hi with hi | ⟨rfl, rfl⟩
    · rcases get_snoc hk with hk | ⟨rfl, rfl⟩
      · exact h.dx i k x hi hk
      · exact absurd rfl (fx i _ hi)
    · rcases get_snoc hk with hk | ⟨rfl, -⟩
      · exact absurd rfl (fx k _ hk)
      · rfl
  · rcases get_snoc hi with hi | ⟨rfl, rfl⟩
    · rcases get_snoc hk with hk | ⟨rfl, rfl⟩
      · exact h.dy i k y hi hk
      · exact absurd rfl (fy i _ hi)
    · rcases get_snoc hk with hk | ⟨rfl, -⟩
      · exact absurd rfl (fy k _ hk)
      · rfl
/-- What lets a call through: it goes nowhere but into a room that is there. -/
def Meek (p : Opn) (ns : List Nat) : Prop :=
  kindN p.kind ≤ 1 ∨ (1 < kindN p.kind ∧ 0 ≤ p.room ∧ kindN p.kind ≠ 5 ∧ ∃ n, ns[p.room.toNat % ns.length]? = some n ∧ p.off ≤ n * 256 ∧ p.size ≤ n * 256 - p.off ∧ (kindN p.kind > 6 → p.off + p.data.length + 8 ≤ n * 256))
theorem place_room {p : Opn} {xs : List Nat} {x : Nat} (hr : 0 ≤ p.room) (hx : xs[p.room.toNat % xs.length]? = some x) (hs : x + p.off < 18446744073709551616) : placeF p xs = x + p.off := by
  have hl : xs.length ≠ 0 := fun e => by
    have := (List.getElem?_eq_some_iff.1 hx).1
    omega
  unfold placeF
  rw [if_neg (by omega), List.getD_eq_getElem?_getD, hx, Option.getD_some, Nat.mod_eq_of_lt hs]
/-- One call in both: the same answers, and the same is left. -/
theorem Tw.step {sa sb sa' sb' : Sp} {xs ys ns : List Nat} (h : Tw sa sb xs ys ns) (ha : sa.Good) (hb : sb.Good) {p : Opn} {hint hint' : Nat} {oa ob : Out} (hm : Meek p ns) (hA : Done sa (placeF p xs) p hint sa' oa) (hB : Done sb (placeF p ys) p hint' sb' ob) :
    oa.e = ob.e ∧ oa.b = ob.b ∧ oa.room = ob.room ∧ (oa.room = false → Tw sa' sb' xs ys ns) ∧ (oa.room = true → Tw sa' sb' (xs ++ [oa.at_]) (ys ++ [ob.at_]) (ns ++ [p.size % 70])) := by
  rcases hm with hk | ⟨hk1, hr, h5, n, hn, ho, hz, h7⟩
  · rcases hA with ⟨-, b, ab, rfl, rfl⟩ | ⟨c, -⟩ | ⟨c, -⟩ | ⟨c, -⟩ | ⟨c, -⟩ | ⟨c, -⟩ | ⟨c, -⟩ | ⟨c, -⟩ <;> try omega
    rcases hB with ⟨-, b', ab', rfl, rfl⟩ | ⟨c, -⟩ | ⟨c, -⟩ | ⟨c, -⟩ | ⟨c, -⟩ | ⟨c, -⟩ | ⟨c, -⟩ | ⟨c, -⟩ <;> try omega
    unfold reserveF
    by_cases c1 : p.size % 70 < 1 ∨ p.size % 70 > 64
    · rw [if_pos c1, if_pos c1]
      exact ⟨rfl, rfl, rfl, fun _ => h, fun e => by cases e⟩
    · rw [if_neg c1, if_neg c1]
      by_cases c2 : sa.used + p.size % 70 > sa.budget
      · rw [if_pos c2, if_pos (by have := h.bud; have := h.used; omega)]
        exact ⟨rfl, rfl, rfl, fun _ => h, fun e => by cases e⟩
      · rw [if_neg c2, if_neg (by have := h.bud; have := h.used; omega)]
        exact ⟨rfl, rfl, rfl, fun e => by simp at e, fun _ => h.new ha hb hint hint' (p.size % 70) b ab b' ab' (by omega) (by omega) (by omega)⟩
  · have hnl := (List.getElem?_eq_some_iff.1 hn).1
    have hlx := h.lx
    have hly := h.ly
    obtain ⟨x, hx⟩ : ∃ x, xs[p.room.toNat % ns.length]? = some x := ⟨_, List.getElem?_eq_getElem (by omega)⟩
    obtain ⟨y, hy⟩ : ∃ y, ys[p.room.toNat % ns.length]? = some y := ⟨_, List.getElem?_eq_getElem (by omega)⟩
    obtain ⟨j, r, k, q, a1, a2, a3, a4, a5, a6⟩ := h.each _ x y n hx hy hn
    have hrg := ha.rm r (List.mem_of_getElem? a1)
    have hqg := hb.rm q (List.mem_of_getElem? a2)
    have hql : q.ps.length = n := by
      have := congrArg List.length a6
      simp only [Rm.V, List.length_map] at this
      omega
    have hsz : p.off + p.size ≤ r.ps.length * 256 := a5.symm ▸ (Nat.le_sub_iff_add_le' ho).1 hz
    have hsz' : p.off + p.size ≤ q.ps.length * 256 := hql.symm ▸ (Nat.le_sub_iff_add_le' ho).1 hz
    have e1 : placeF p xs = r.at_ + p.off := by
      rw [a3]
      refine place_room hr (by rw [hlx]; exact hx) ?_
      have := hrg.hi
      have := hrg.l2
      unfold Rm.fin at *
      omega
    have e2 : placeF p ys = q.at_ + p.off := by
      rw [a4]
      refine place_room hr (by rw [hly]; exact hy) ?_
      have := hqg.hi
      have := hqg.l2
      unfold Rm.fin at *
      omega
    rw [e1] at hA
    rw [e2] at hB
    rcases hA with ⟨c, -⟩ | ⟨c, nb, rfl, rfl⟩ | ⟨c, rfl, rfl⟩ | ⟨c, -⟩ | ⟨c, rfl, rfl⟩ | ⟨c, rfl, rfl⟩ | ⟨c, rfl, rfl⟩ | ⟨c, rfl, rfl⟩
    · rcases hB with ⟨c', -⟩ | ⟨c', nb', rfl, rfl⟩ | ⟨c', rfl, rfl⟩ | ⟨c', -⟩ | ⟨c', rfl, rfl⟩ | ⟨c', rfl, rfl⟩ | ⟨c', rfl, rfl⟩ | ⟨c', rfl, rfl⟩ <;> omega
    · rcases hB with ⟨c', -⟩ | ⟨c', nb', rfl, rfl⟩ | ⟨c', rfl, rfl⟩ | ⟨c', -⟩ | ⟨c', rfl, rfl⟩ | ⟨c', rfl, rfl⟩ | ⟨c', rfl, rfl⟩ | ⟨c', rfl, rfl⟩ <;> try omega
      obtain ⟨r', u1, u2, u3, u4, u5⟩ := map_room ha a1 p.prot p.data nb hsz
      obtain ⟨q', v1, v2, v3, v4, v5⟩ := map_room hb a2 p.prot p.data nb' hsz'
      refine ⟨by show (mapF _ _ _ _ _ _).2 = (mapF _ _ _ _ _ _).2; rw [u5, v5, a6], rfl, rfl, fun _ => ?_, fun e => by cases e⟩
      rw [u1, v1]
      exact h.put hx hy hn a1 a2 a3 a4 a5 a6 u2 u3 v2 (by rw [u4, v4, a6])
    · rcases hB with ⟨c', -⟩ | ⟨c', nb', rfl, rfl⟩ | ⟨c', rfl, rfl⟩ | ⟨c', -⟩ | ⟨c', rfl, rfl⟩ | ⟨c', rfl, rfl⟩ | ⟨c', rfl, rfl⟩ | ⟨c', rfl, rfl⟩ <;> try omega
      obtain ⟨r', u1, u2, u3, u4, u5⟩ := prot_room ha a1 p.prot hsz
      obtain ⟨q', v1, v2, v3, v4, v5⟩ := prot_room hb a2 p.prot hsz'
      refine ⟨by show (protF _ _ _ _).2 = (protF _ _ _ _).2; rw [u5, v5, a6], rfl, rfl, fun _ => ?_, fun e => by cases e⟩
      rw [u1, v1]
      exact h.put hx hy hn a1 a2 a3 a4 a5 a6 u2 u3 v2 (by rw [u4, v4, a6])
    · exact absurd c h5
    · rcases hB with ⟨c', -⟩ | ⟨c', nb', rfl, rfl⟩ | ⟨c', rfl, rfl⟩ | ⟨c', -⟩ | ⟨c', rfl, rfl⟩ | ⟨c', rfl, rfl⟩ | ⟨c', rfl, rfl⟩ | ⟨c', rfl, rfl⟩ <;> try omega
      have e : readF sa'.rs (r.at_ + p.off) p.size = readF sb'.rs (q.at_ + p.off) p.size := by rw [read_room ha a1 hsz, read_room hb a2 hsz', a6]
      exact ⟨by show (readF _ _ _).2 = (readF _ _ _).2; rw [e], by show (readF _ _ _).1 = (readF _ _ _).1; rw [e], rfl, fun _ => h, fun e => by cases e⟩
    · rcases hB with ⟨c', -⟩ | ⟨c', nb', rfl, rfl⟩ | ⟨c', rfl, rfl⟩ | ⟨c', -⟩ | ⟨c', rfl, rfl⟩ | ⟨c', rfl, rfl⟩ | ⟨c', rfl, rfl⟩ | ⟨c', rfl, rfl⟩ <;> try omega
      have h8 := h7 (by omega)
      obtain ⟨r', u1, u2, u3, u4, u5⟩ := write_room ha a1 (off := p.off) p.data (by omega)
      obtain ⟨q', v1, v2, v3, v4, v5⟩ := write_room hb a2 (off := p.off) p.data (by omega)
      refine ⟨by show (writeF _ _ _).2 = (writeF _ _ _).2; rw [u5, v5, a6], rfl, rfl, fun _ => ?_, fun e => by cases e⟩
      rw [u1, v1]
      exact h.put hx hy hn a1 a2 a3 a4 a5 a6 u2 u3 v2 (by rw [u4, v4, a6])
    · rcases hB with ⟨c', -⟩ | ⟨c', nb', rfl, rfl⟩ | ⟨c', rfl, rfl⟩ | ⟨c', -⟩ | ⟨c', rfl, rfl⟩ | ⟨c', rfl, rfl⟩ | ⟨c', rfl, rfl⟩ | ⟨c', rfl, rfl⟩ <;> try omega
      have h8 := h7 (by omega)
      have e : loadF sa'.rs (r.at_ + p.off) = loadF sb'.rs (q.at_ + p.off) := by rw [load_room ha a1 (by omega), load_room hb a2 (by omega), a6]
      exact ⟨by show (loadF _ _).2 = (loadF _ _).2; rw [e], by show le8 (loadF _ _).1.toNat = le8 (loadF _ _).1.toNat; rw [e], rfl, fun _ => h, fun e => by cases e⟩
    · rcases hB with ⟨c', -⟩ | ⟨c', nb', rfl, rfl⟩ | ⟨c', rfl, rfl⟩ | ⟨c', -⟩ | ⟨c', rfl, rfl⟩ | ⟨c', rfl, rfl⟩ | ⟨c', rfl, rfl⟩ | ⟨c', rfl, rfl⟩ <;> try omega
      have h8 := h7 (by omega)
      obtain ⟨r', u1, u2, u3, u4, u5⟩ := write_room ha a1 (off := p.off) (le8 p.hint) (by rw [le8_len]; omega)
      obtain ⟨q', v1, v2, v3, v4, v5⟩ := write_room hb a2 (off := p.off) (le8 p.hint) (by rw [le8_len]; omega)
      refine ⟨by show (writeF _ _ _).2 = (writeF _ _ _).2; rw [u5, v5, a6], rfl, rfl, fun _ => ?_, fun e => by cases e⟩
      rw [u1, v1]
      exact h.put hx hy hn a1 a2 a3 a4 a5 a6 u2 u3 v2 (by rw [u4, v4, a6])
end Go.Proofs.Ytmpahimeljbliaa.Vm
