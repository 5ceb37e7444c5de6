/- What is told of a space, read. No condition but that the rows lie in memory as told. -/
import Derived.Test.YtmpahimeljbliaaVmPages
namespace Go.Proofs.Ytmpahimeljbliaa.Vm
open Go.RowKit Go.Proofs Go.Proofs.YtmpahimeljbliaaW.PrintWords

theorem reps_flat {α : Type} (f : α → List Value) (size : Nat) : ∀ (ps : List α), (∀ p ∈ ps, (f p).length = size) → Reps (fun p c => c = f p) size ps (ps.flatMap f) := by
  intro ps
  induction ps with
  | nil => exact fun _ => Reps.none _ _
  | cons q ps ih =>
    intro h
    have h1 := ih (fun p hp => h p (List.mem_cons_of_mem _ hp))
    have hq := h q List.mem_cons_self
    refine ⟨by rw [List.flatMap_cons, List.length_append, h1.1, hq, List.length_cons, Nat.add_mul]; omega, fun j p hj => ?_⟩
    rw [List.flatMap_cons]
    rcases j with _ | j
    · have e : p = q := by simpa using hj.symm
      rw [Nat.zero_mul, List.drop_zero, List.take_append_of_le_length (by omega), List.take_of_length_le (by omega), e]
    · have h2 := h1.2 j p (by simpa using hj)
      rw [Nat.succ_mul, Nat.add_comm, ← hq, List.drop_length_add_append, hq]
      exact h2
theorem rows_at {α : Type} {f : α → List Value} {size n : Nat} {w : World} {base : Nat} {e : TypeId} {v : Value} {ps : List α} (h : w.ownsRow base e size v n (ps.flatMap f)) (hn : ps.length = n) (hf : ∀ p ∈ ps, (f p).length = size) :
    ∃ A c, v = .slice A n c ∧ ∀ (k : Nat) (p : α), ps[k]? = some p → ∃ ad, A = some ad ∧ ∀ i u, (f p)[i]? = some u → w.cell? (ad.add (k * size + i)) = some u := by
  obtain ⟨A, c, e, hr⟩ := own_reads_row h (reps_flat f size ps hf) hn
  refine ⟨A, c, e, fun k p hk => ?_⟩
  have hlt : k < n := by have := (List.getElem?_eq_some_iff.1 hk).1; omega
  obtain ⟨ad, e, hc⟩ := hr.2.2 (by omega)
  obtain ⟨cc, -, rfl, hcc⟩ := hc k p hk
  exact ⟨ad, e, hcc⟩
theorem regs_at {w : World} {base : Nat} {v : Value} {l : List Rm} (h : w.ownsRow base 87 2 v l.length (l.flatMap cellsG)) :
    ∃ A c, v = .slice A l.length c ∧ ∀ (k : Nat) (r : Rm), l[k]? = some r → ∃ ad, A = some ad ∧ w.cell? (ad.add (k * 2)) = some (.int .u64 r.at_) ∧ w.cell? ⟨(ad.add (k * 2)).block, (ad.add (k * 2)).off + 1, none⟩ = some (.int .i64 r.ps.length) := by
  obtain ⟨A, c, e, hr⟩ := rows_at h rfl (fun _ _ => rfl)
  refine ⟨A, c, e, fun k r hk => ?_⟩
  obtain ⟨ad, e, hc⟩ := hr k r hk
  exact ⟨ad, e, hc 0 _ rfl, by rw [← add_field _ _ 1 (by omega)]; exact hc 1 _ rfl⟩
theorem pgs_at {w : World} {base : Nat} {v : Value} {l : List Pg} (h : w.ownsRow base 90 258 v l.length (cellsL l)) (hl : ∀ g ∈ l, g.data.length = 256) :
    ∃ A c, v = .slice A l.length c ∧ ∀ (k : Nat) (g : Pg), l[k]? = some g → ∃ ad, A = some ad ∧ w.cell? (ad.add (k * 258)) = some (.int .u64 g.at_) ∧ w.cell? ⟨(ad.add (k * 258)).block, (ad.add (k * 258)).off + 1, none⟩ = some (.int .i64 g.prot) ∧ ∀ j u, g.data[j]? = some u → w.cell? ⟨(ad.add (k * 258)).block, (ad.add (k * 258)).off + (2 + j), none⟩ = some (.int .u8 u) := by
  obtain ⟨A, c, e, hr⟩ := rows_at h rfl (fun g hg => by simp [cellsP, hl g hg])
  refine ⟨A, c, e, fun k g hk => ?_⟩
  obtain ⟨ad, e, hc⟩ := hr k g hk
  have e3 : (cellsP g).toList = Value.int .u64 g.at_ :: .int .i64 g.prot :: g.data.map (.int .u8) := rfl
  rw [e3] at hc
  have h2 : ∀ j u, g.data[j]? = some u → w.cell? (ad.add (k * 258 + (j + 1 + 1))) = some (.int .u8 u) := fun j u hu => hc (j + 1 + 1) _ (by rw [List.getElem?_cons_succ, List.getElem?_cons_succ, List.getElem?_map, hu]; rfl)
  have h0 := hc 0 _ rfl
  have h1 := hc 1 _ rfl
  clear hc e3
  generalize k * 258 = m at *
  refine ⟨ad, e, h0, by rw [← add_field _ _ 1 (by omega)]; exact h1, fun j u hu => ?_⟩
  rw [← add_field _ _ (2 + j) (by omega), show 2 + j = j + 1 + 1 from by omega]
  exact h2 j u hu
theorem pgs_mem {l : List Rm} {g : Pg} (h : g ∈ pgsOf l) : ∃ r : Rm, r ∈ l ∧ ∃ k : Nat, r.ps[k]? = some (some g) := by
  obtain ⟨r, hr, hg⟩ := List.mem_flatMap.1 h
  obtain ⟨x, hx, e⟩ := List.mem_filterMap.1 hg
  obtain ⟨k, hk⟩ := List.mem_iff_getElem?.1 hx
  exact ⟨r, hr, k, by rw [hk]; exact congrArg some e⟩
end Go.Proofs.Ytmpahimeljbliaa.Vm
