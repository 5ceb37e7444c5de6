/- Where a room is laid: the plain lists. No condition beyond those of each lemma. -/
import Derived.Test.YtmpahimeljbliaaVmPure
namespace Go.Proofs.Ytmpahimeljbliaa.Vm

theorem gap_ge (z : Nat) : ∀ (l : List Rm) (x : Nat), x ≤ gap z l x
  | [], x => Nat.le_refl _
  | r :: l, x => by
    rw [gap]
    split
    · exact gap_ge z l x
    · split
      · exact Nat.le_refl _
      · next h1 h2 => have := gap_ge z l r.fin; omega
theorem gap_free (z : Nat) : ∀ (l : List Rm) (x : Nat), l.Pairwise (fun r q => r.fin ≤ q.at_) → ∀ r ∈ l, r.fin ≤ gap z l x ∨ gap z l x + z ≤ r.at_
  | [], x, _, r, h => by cases h
  | q :: l, x, hp, r, h => by
    obtain ⟨h1, h2⟩ := List.pairwise_cons.1 hp
    rw [gap]
    split
    · next c =>
      rcases List.mem_cons.1 h with rfl | h
      · left; have := gap_ge z l x; omega
      · exact gap_free z l x h2 r h
    · split
      · next c =>
        right
        rcases List.mem_cons.1 h with rfl | h
        · omega
        · have h3 := h1 r h
          have h4 : q.at_ ≤ q.fin := by unfold Rm.fin; omega
          omega
      · rcases List.mem_cons.1 h with rfl | h
        · left; exact gap_ge z l r.fin
        · exact gap_free z l q.fin h2 r h
/-- No free place from x on is nearer. -/
theorem gap_least (z : Nat) (hz : 0 < z) : ∀ (l : List Rm) (x y : Nat), l.Pairwise (fun r q => r.fin ≤ q.at_) → (∀ r ∈ l, 1 ≤ r.ps.length) → x ≤ y → (∀ r ∈ l, r.fin ≤ y ∨ y + z ≤ r.at_) → gap z l x ≤ y
  | [], x, y, _, _, h, _ => h
  | q :: l, x, y, hp, hl, hxy, hf => by
    obtain ⟨h1, h2⟩ := List.pairwise_cons.1 hp
    have hl2 : ∀ r ∈ l, 1 ≤ r.ps.length := fun r hr => hl r (List.mem_cons_of_mem _ hr)
    have hf2 : ∀ r ∈ l, r.fin ≤ y ∨ y + z ≤ r.at_ := fun r hr => hf r (List.mem_cons_of_mem _ hr)
    rw [gap]
    split
    · exact gap_least z hz l x y h2 hl2 hxy hf2
    · split
      · exact hxy
      · next c1 c2 =>
        refine gap_least z hz l q.fin y h2 hl2 ?_ hf2
        rcases hf q List.mem_cons_self with h | h
        · exact h
        · omega
theorem gap_al (z : Nat) : ∀ (l : List Rm) (x : Nat), x % 256 = 0 → (∀ r ∈ l, r.at_ % 256 = 0) → gap z l x % 256 = 0
  | [], x, h, _ => h
  | q :: l, x, h, ha => by
    have ha2 : ∀ r ∈ l, r.at_ % 256 = 0 := fun r hr => ha r (List.mem_cons_of_mem _ hr)
    rw [gap]
    split
    · exact gap_al z l x h ha2
    · split
      · exact h
      · refine gap_al z l q.fin ?_ ha2
        have := ha q List.mem_cons_self
        unfold Rm.fin
        omega
set_option maxRecDepth 10000 in
theorem gap_le1 {g x U P V z : Nat} (h : g ≤ x + U * 256 + P) : g ≤ x + (V + U) * 256 + (P + z) := by rw [Nat.add_mul]; omega
set_option maxRecDepth 10000 in
theorem gap_le2 (x U P V z : Nat) : x ≤ x + (V + U) * 256 + (P + z) := by omega
set_option maxRecDepth 10000 in
theorem gap_le3 {g x U P V z F a : Nat} (h : g ≤ F + U * 256 + P) (hf : F = a + V * 256) (c1 : ¬ F ≤ x) (c2 : ¬ (x ≤ a ∧ z ≤ a - x)) : g ≤ x + (V + U) * 256 + (P + z) := by omega
/-- What is passed over is no more than what is taken and rows that are too short. -/
theorem gap_le (z : Nat) : ∀ (l : List Rm) (x : Nat), gap z l x ≤ x + total l * 256 + l.length * z
  | [], x => by simp [gap]
  | q :: l, x => by
    have ht : total (q :: l) = q.ps.length + total l := by simp [total]
    have hl : (q :: l).length * z = l.length * z + z := by rw [List.length_cons, Nat.add_mul, Nat.one_mul]
    have i1 := gap_le z l x
    have i2 := gap_le z l q.fin
    have hf : q.fin = q.at_ + q.ps.length * 256 := rfl
    rw [gap, ht, hl]
    clear ht hl
    generalize l.length * z = P at i1 i2 ⊢
    generalize total l = U at i1 i2 ⊢
    generalize q.ps.length = V at hf ⊢
    generalize gap z l x = g1 at i1 ⊢
    generalize gap z l q.fin = g2 at i2 ⊢
    generalize q.fin = F at *
    by_cases c1 : F ≤ x
    · rw [if_pos c1]; exact gap_le1 i1
    · rw [if_neg c1]
      by_cases c2 : x ≤ q.at_ ∧ z ≤ q.at_ - x
      · rw [if_pos c2]; exact gap_le2 _ _ _ _ _
      · rw [if_neg c2]; exact gap_le3 i2 hf c1 c2
/-- Where a room is laid. -/
def placeFor (s : Sp) (hint pages : Nat) : Nat :=
  if gap (pages * 256) s.rs (max (hint % 1099511627776 / 256) 1 * 256) ≤ 1099511627776 - pages * 256 then gap (pages * 256) s.rs (max (hint % 1099511627776 / 256) 1 * 256) else gap (pages * 256) s.rs 256
def putRoom (l : List Rm) (r : Rm) : List Rm := l.take (behind r.at_ l) ++ r :: l.drop (behind r.at_ l)
def reserveF (s : Sp) (hint pages b ab : Nat) : Sp × Nat × Int :=
  if pages < 1 ∨ pages > 64 then (s, 0, 51)
  else if s.used + pages > s.budget then (s, 0, 50)
  else ({ s with used := s.used + pages, rs := putRoom s.rs ⟨b, ab, placeFor s hint pages, List.replicate pages none⟩ }, placeFor s hint pages, 0)
theorem place_ok {s : Sp} (h : s.Good) (hint pages : Nat) (h1 : 1 ≤ pages) (h2 : pages ≤ 64) :
    placeFor s hint pages % 256 = 0 ∧ 256 ≤ placeFor s hint pages ∧ placeFor s hint pages + pages * 256 ≤ 1099511627776 ∧ ∀ r ∈ s.rs, r.fin ≤ placeFor s hint pages ∨ placeFor s hint pages + pages * 256 ≤ r.at_ := by
  have ha : ∀ r ∈ s.rs, r.at_ % 256 = 0 := fun r hr => (h.rm r hr).al
  have hbd := gap_le (pages * 256) s.rs 256
  have hn : s.rs.length * (pages * 256) ≤ 16777216 := Nat.le_trans (Nat.mul_le_mul h.len (show pages * 256 ≤ 16384 by omega)) (by decide)
  have ht : total s.rs ≤ 1024 := by have := h.us; have := h.ub; have := h.b2; omega
  unfold placeFor
  split
  · next c =>
    exact ⟨gap_al _ _ _ (by omega) ha, by have := gap_ge (pages * 256) s.rs (max (hint % 1099511627776 / 256) 1 * 256); omega, by omega, gap_free _ _ _ h.srt⟩
  · exact ⟨gap_al _ _ _ (by omega) ha, gap_ge _ _ _, by omega, gap_free _ _ _ h.srt⟩
theorem put_at (l : List Rm) (r : Rm) (i : Nat) (q : Rm) (h : (putRoom l r)[i]? = some q) : (i < behind r.at_ l ∧ l[i]? = some q) ∨ (i = behind r.at_ l ∧ q = r) ∨ (behind r.at_ l < i ∧ l[i - 1]? = some q) := by
  have hb := behind_le r.at_ l
  unfold putRoom at h
  rcases Nat.lt_trichotomy i (behind r.at_ l) with c | c | c
  · rw [List.getElem?_append_left (by rw [List.length_take]; omega), List.getElem?_take_of_lt c] at h
    exact .inl ⟨c, h⟩
  · subst c
    rw [List.getElem?_append_right (by rw [List.length_take]; omega), List.length_take, Nat.min_eq_left hb, Nat.sub_self] at h
    exact .inr (.inl ⟨rfl, by simpa using h.symm⟩)
  · rw [List.getElem?_append_right (by rw [List.length_take]; omega), List.length_take, Nat.min_eq_left hb] at h
    obtain ⟨m, hm⟩ : ∃ m, i - behind r.at_ l = m + 1 := ⟨i - behind r.at_ l - 1, by omega⟩
    rw [hm, List.getElem?_cons_succ, List.getElem?_drop, show behind r.at_ l + m = i - 1 from by omega] at h
    exact .inr (.inr ⟨c, h⟩)
theorem put_mem (l : List Rm) (r q : Rm) (h : q ∈ putRoom l r) : q ∈ l ∨ q = r := by
  obtain ⟨i, hi⟩ := List.mem_iff_getElem?.1 h
  rcases put_at l r i q hi with ⟨_, h⟩ | ⟨_, h⟩ | ⟨_, h⟩
  · exact .inl (List.mem_of_getElem? h)
  · exact .inr h
  · exact .inl (List.mem_of_getElem? h)
theorem total_put (l : List Rm) (r : Rm) : total (putRoom l r) = total l + r.ps.length := by
  have h : total l = total (l.take (behind r.at_ l)) + total (l.drop (behind r.at_ l)) := by
    unfold total
    rw [← List.sum_append, ← List.map_append, List.take_append_drop]
  unfold putRoom
  rw [h]
  simp [total]
  omega
theorem room_good (b ab x pages : Nat) (h1 : 1 ≤ pages) (h2 : pages ≤ 64) (ha : x % 256 = 0) (hl : 256 ≤ x) (hh : x + pages * 256 ≤ 1099511627776) : (⟨b, ab, x, List.replicate pages none⟩ : Rm).Good :=
  ⟨ha, hl, by simpa using h1, by simpa using h2, by simpa [Rm.fin] using hh, fun k p hp => by
    simp only [List.getElem?_replicate] at hp
    split at hp <;> cases hp⟩
theorem put_good {s : Sp} (h : s.Good) (hint pages b ab : Nat) (h1 : 1 ≤ pages) (h2 : pages ≤ 64) (hu : s.used + pages ≤ s.budget) :
    Sp.Good { s with used := s.used + pages, rs := putRoom s.rs ⟨b, ab, placeFor s hint pages, List.replicate pages none⟩ } := by
  obtain ⟨p1, p2, p3, p4⟩ := place_ok h hint pages h1 h2
  have hrg := room_good b ab _ pages h1 h2 p1 p2 p3
  refine ⟨h.b1, h.b2, by simp only [total_put]; rw [h.us]; simp, hu, ?_, fun r hr => ?_⟩
  · generalize hR : (⟨b, ab, placeFor s hint pages, List.replicate pages none⟩ : Rm) = R at *
    have hat : R.at_ = placeFor s hint pages := by rw [← hR]
    have hfin : R.fin = placeFor s hint pages + pages * 256 := by rw [← hR]; simp [Rm.fin]
    have hb := behind_le R.at_ s.rs
    rw [List.pairwise_iff_getElem]
    intro i k hi hk hik
    have e1 := put_at s.rs R i _ (List.getElem?_eq_getElem hi)
    have e2 := put_at s.rs R k _ (List.getElem?_eq_getElem hk)
    have low : ∀ (m : Nat) (q : Rm), m < behind R.at_ s.rs → s.rs[m]? = some q → q.fin ≤ R.at_ := fun m q hm hq => by
      have := behind_lt R.at_ s.rs m q hm hq
      rcases p4 q (List.mem_of_getElem? hq) with h | h
      · omega
      · omega
    have high : ∀ (m : Nat) (q : Rm), behind R.at_ s.rs ≤ m → s.rs[m]? = some q → R.fin ≤ q.at_ := fun m q hm hq => by
      have hx := (h.behind_iff R.at_ hq).2 hm
      have hq1 := (h.rm q (List.mem_of_getElem? hq)).l1
      rcases p4 q (List.mem_of_getElem? hq) with h | h
      · unfold Rm.fin at h; omega
      · omega
    rcases e1 with ⟨a1, a2⟩ | ⟨a1, a2⟩ | ⟨a1, a2⟩ <;> rcases e2 with ⟨b1, b2⟩ | ⟨b1, b2⟩ | ⟨b1, b2⟩
    · exact h.apart a2 b2 hik
    · rw [b2]; exact low i _ a1 a2
    · exact h.apart a2 b2 (by omega)
    · omega
    · omega
    · rw [a2]; exact high _ _ (by omega) b2
    · omega
    · omega
    · exact h.apart a2 b2 (by omega)
  · rcases put_mem s.rs _ r hr with h3 | h3
    · exact h.rm r h3
    · rw [h3]; exact hrg
end Go.Proofs.Ytmpahimeljbliaa.Vm
