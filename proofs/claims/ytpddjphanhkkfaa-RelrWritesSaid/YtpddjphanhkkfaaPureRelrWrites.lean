/- The words that tell each row of places, or that it can't be told: the plain statement. No condition. -/
import Derived.Test.YtpddjphanhkkfaaRelrFacts
import Derived.Test.YtpddjphanhkkfaaRelrRow
import Derived.Test.YtpddjphanhkkfaaPx4
namespace Go.Proofs.Ytpddjphanhkkfaa.Pure
open Go.Proofs.Ytpddjphanhkkfaa.RelrFacts Go.Proofs.Ytpddjphanhkkfaa.RelrRow Go.RowKit Go.Proofs.Ytpddjphanhkkfaa.P Go.Proofs.Ytpddjphanhkkfaa.RelrPure Go.Proofs.Ytpddjphanhkkfaa.Buf Go.Proofs.Ytpddjphanhkkfaa.RelrIter Go.Proofs.Ytpddjphanhkkfaa.RelrEncPure Go.Proofs.YtpddjphanhkkfaaW.PrintWords Go.Proofs.YtpddjphanhkkfaaW.PrintLast

/-- From so many rounds on it answers so. -/
def Ev {α : Type} (C : Nat) (g : Nat → Option α) (r : α) : Prop := ∀ k, C ≤ k → g k = some r
theorem Ev.step {α : Type} {C C' : Nat} {f g : Nat → Option α} {r : α} (h : Ev C g r) (hs : ∀ k, f (k + 1) = g k) (hC : C + 1 ≤ C') : Ev C' f r := fun k hk => by
  obtain ⟨k, rfl⟩ : ∃ m, k = m + 1 := ⟨k - 1, by omega⟩
  rw [hs, h k (by omega)]
theorem Ev.more {α : Type} {C C' : Nat} {g : Nat → Option α} {r : α} (h : Ev C g r) (hC : C ≤ C') : Ev C' g r := fun k hk => h k (Nat.le_trans hC hk)

theorem put_ref (n : Int) (b : List Int) (hlen : b.length ≤ 100000) : ∀ (d j k : Nat) (m : Int) (c : List Int), 8 - j = d → j ≤ 8 → d < k → 0 ≤ m → m < 18446744073709551616 → c.length ≤ b.length + j → c ++ putBytes m d = b ++ putBytes n 8 →
    messuageref02_Put.l0 k c m 8 j = some (b ++ putBytes n 8) := by
  intro d
  induction d with
  | zero =>
    intro j k m c hd hj hk hm0 hm1 hc he
    obtain ⟨k, rfl⟩ : ∃ m, k = m + 1 := ⟨k - 1, by omega⟩
    simp only [messuageref02_Put.l0]
    rw [if_neg (by omega), ← he]
    simp [putBytes]
  | succ d ih =>
    intro j k m c hd hj hk hm0 hm1 hc he
    obtain ⟨k, rfl⟩ : ∃ m, k = m + 1 := ⟨k - 1, by omega⟩
    simp only [messuageref02_Put.l0]
    rw [if_pos (by omega), if_pos (by omega), w64i _ (by omega) (by omega), Int.tmod_eq_emod_of_nonneg hm0, Int.tdiv_eq_ediv_of_nonneg hm0, w64 (m / 256) (by omega) (by omega)]
    have e : m % 256 % 256 = m % 256 := by omega
    rw [e]
    exact ih (j + 1) k (m / 256) (c ++ [m % 256]) (by omega) (by omega) (by omega) (by omega) (by omega) (by rw [List.length_append, List.length_singleton]; omega) (by rw [← he, putBytes, List.append_assoc]; rfl)
theorem put_f (b : List Int) (n : Int) (hlen : b.length ≤ 100000) (h0 : 0 ≤ n) (h1 : n < 18446744073709551616) (k : Nat) (hk : 9 ≤ k) : messuageref02_Put.f k b n 8 = some (b ++ putBytes n 8) := by
  unfold messuageref02_Put.f
  exact put_ref n b hlen 8 0 k n b rfl (by omega) (by omega) h0 h1 (by omega) rfl

theorem shift_two (m : Nat) (h : m ≤ 62) : IntKind.u64.wrap ((2 : Int) ^ (m + 1) * 2) = 2 ^ (m + 1 + 1) ∨ m = 62 := by
  have : ∀ m : Nat, m ≤ 62 → IntKind.u64.wrap ((2 : Int) ^ (m + 1) * 2) = 2 ^ (m + 1 + 1) ∨ m = 62 := by decide +kernel
  exact this m h
/-- The document's loop that finds a bit. -/
theorem l3_ev (l bs : List Int) (frm i row t p : Int) (r : List Int × Int) (C e : Nat) (he : p = frm + 8 * e) (he2 : e ≤ 62) (hf0 : 0 ≤ frm) (hp : p < 18446744073709551616 - 512)
    (h : Ev C (fun k => messuageref13_Encode.l2 k l bs frm i (IntKind.u64.wrap (row + 2 ^ (e + 1))) (wrap64 (t + 1))) r) :
    ∀ (d m : Nat), e - m = d → m ≤ e → Ev (C + d + 1) (fun k => messuageref13_Encode.l3 k l bs frm i row t p (2 ^ (m + 1)) (frm + 8 * m)) r := by
  intro d
  induction d with
  | zero =>
    intro m hd hm
    obtain rfl : m = e := by omega
    refine h.step (fun k => ?_) (by omega)
    simp only [messuageref13_Encode.l3]
    rw [if_neg (by omega)]
  | succ d ih =>
    intro m hd hm
    refine (ih (m + 1) (by omega) (by omega)).step (fun k => ?_) (by omega)
    simp only [messuageref13_Encode.l3]
    rw [if_pos (by omega)]
    rcases shift_two m (by omega) with h2 | h2
    · rw [h2, w64 (frm + 8 * m + 8) (by omega) (by omega)]
      congr 1
      omega
    · omega

set_option maxHeartbeats 1000000 in
/-- The document's row of bits. -/
theorem l2_ev (l bs : List Int) (hw : Words l) (hok : ∀ i, i < l.length → okAt l i) (hlen : l.length ≤ 512) (frm : Int) (hf0 : 0 ≤ frm) (i : Nat) (hi : 0 < i) (r : List Int × Int) (C : Nat) :
    ∀ (d t : Nat) (acc : Int), l.length - (i + t) = d → i + t ≤ l.length → 1 ≤ acc → (∀ p, (l.drop (i + t)).head? = some p → inRow frm p → acc < 2 ^ ((p - frm) / 8 + 1).toNat) →
    Ev C (fun k => messuageref13_Encode.j6 k l bs frm i ((rowS frm (l.drop (i + t)) acc).1 - 1) ((t + (rowS frm (l.drop (i + t)) acc).2 : Nat) : Int)) r →
    Ev (C + 70 * ((rowS frm (l.drop (i + t)) acc).2 + 1)) (fun k => messuageref13_Encode.l2 k l bs frm i (acc - 1) (t : Int)) r := by
  intro d
  induction d with
  | zero =>
    intro t acc hd hit ha hacc h
    have hn : l.drop (i + t) = [] := List.drop_eq_nil_of_le (by omega)
    rw [hn] at h ⊢
    simp only [rowS] at h ⊢
    refine Ev.step (C := C + 1) ?_ (g := fun k => messuageref13_Encode.j3 k l bs frm i (acc - 1) t false) (fun k => ?_) (by omega)
    · refine h.step (fun k => ?_) (by omega)
      simp only [messuageref13_Encode.j3]
      rfl
    · simp only [messuageref13_Encode.l2]
      rw [if_pos (by omega), w64i _ (by omega) (by omega)]
      congr 1
      simp
      omega
  | succ d ih =>
    intro t acc hd hit ha hacc h
    have hlt : i + t < l.length := by omega
    have hdr := List.drop_eq_getElem_cons hlt
    rw [← rd_nat l (i + t) hlt] at hdr
    have hp := hw.at_ ((i + t : Nat) : Int)
    have ho := hok (i + t) hlt
    rw [hdr] at h hacc ⊢
    obtain ⟨p, hpe⟩ : ∃ p, rd l ((i + t : Nat) : Int) = p := ⟨_, rfl⟩
    have hp2 : p ≤ 18446744073709551103 := by rw [← hpe]; exact ho.2.1
    rw [hpe] at h hacc hp ⊢
    obtain ⟨hp0, hp1⟩ := hp
    have hl2 : ∀ k, messuageref13_Encode.l2 (k + 1) l bs frm i (acc - 1) (t : Int) = messuageref13_Encode.j3 k l bs frm i (acc - 1) t true := fun k => by
      simp only [messuageref13_Encode.l2]
      rw [if_pos (by omega), w64i _ (by omega) (by omega)]
      congr 1
      simp
      omega
    have hix : Aside0 (wrap64 ((i : Int) + (t : Int)) = ((i + t : Nat) : Int)) := ⟨by rw [w64i _ (by omega) (by omega)]; omega⟩
    by_cases hin : inRow frm p
    · obtain ⟨c1, c2, c3⟩ := hin
      have hr : rowS frm (p :: l.drop (i + t + 1)) acc = ((rowS frm (l.drop (i + t + 1)) (acc + 2 ^ ((p - frm) / 8 + 1).toNat)).1, (rowS frm (l.drop (i + t + 1)) (acc + 2 ^ ((p - frm) / 8 + 1).toNat)).2 + 1) := by
        rw [rowS, if_pos (inRow_mk c1 c2 c3), or_pow acc _ (by omega) (hacc p rfl (inRow_mk c1 c2 c3)) (by omega)]
      obtain ⟨e, he⟩ : ∃ e : Nat, (p - frm) / 8 = e := ⟨((p - frm) / 8).toNat, by omega⟩
      have hee : ((p - frm) / 8 + 1).toNat = e + 1 := by omega
      have hpf : p = frm + 8 * e := by omega
      have he62 : e ≤ 62 := by omega
      have hacc1 := hacc p rfl (inRow_mk c1 c2 c3)
      rw [hr] at h ⊢
      rw [hee] at h hacc1 ⊢
      have hb := pow_small63 e he62
      have hnext := ih (t + 1) (acc + 2 ^ (e + 1)) (by omega) (by omega) (by omega) (by
        intro p' hp' _
        have hlt' : i + t + 1 < l.length := by
          rcases Nat.lt_or_ge (i + t + 1) l.length with h | h
          · exact h
          · rw [show i + (t + 1) = i + t + 1 by omega, List.drop_eq_nil_of_le h] at hp'
            cases hp'
        rw [show i + (t + 1) = i + t + 1 by omega, List.drop_eq_getElem_cons hlt', ← rd_nat l (i + t + 1) hlt'] at hp'
        have ho' := (hok (i + t + 1) hlt').2.2
        have hpp : p' = rd l ((i + t + 1 : Nat) : Int) := by simpa using hp'.symm
        rw [← hpp, show ((i + t + 1 : Nat) : Int) - 1 = ((i + t : Nat) : Int) by omega, hpe] at ho'
        have hge : 8 ≤ p' - p := by
          rcases ho' with h | h
          · exact absurd h (Nat.succ_ne_zero _)
          · exact h.2
        exact next_bit acc frm p p' e hpf hge hacc1) (by
        rw [show i + (t + 1) = i + t + 1 by omega]
        rw [show t + 1 + (rowS frm (l.drop (i + t + 1)) (acc + 2 ^ (e + 1))).2 = t + ((rowS frm (l.drop (i + t + 1)) (acc + 2 ^ (e + 1))).2 + 1) by omega]
        exact h)
      rw [show i + (t + 1) = i + t + 1 by omega] at hnext
      have hw1 : Aside0 (IntKind.u64.wrap (acc - 1 + 2 ^ (e + 1)) = acc + 2 ^ (e + 1) - 1) := ⟨by rw [w64 _ (by omega) (by omega)]; omega⟩
      have hw2 : Aside0 (wrap64 ((t : Int) + 1) = ((t + 1 : Nat) : Int)) := ⟨by rw [w64i _ (by omega) (by omega)]; rfl⟩
      have h3 := l3_ev l bs frm i (acc - 1) t p r _ e hpf he62 hf0 (by omega) (by rw [hw1.out, hw2.out]; exact hnext) e 0 (by omega) (by omega)
      refine Ev.step (g := fun k => messuageref13_Encode.j3 k l bs frm i (acc - 1) t true) (Ev.step (g := fun k => messuageref13_Encode.j4 k l bs frm i (acc - 1) t p false) (h3.step (fun k => ?_) (Nat.le_refl _)) (fun k => ?_) (Nat.le_refl _)) hl2 (by omega)
      · simp only [messuageref13_Encode.j4]
        rw [if_neg (by decide)]
        simp
      · simp only [messuageref13_Encode.j3]
        rw [if_pos trivial, hix.out, hpe, if_pos (by omega), if_pos (by omega), if_neg c1, w64 (p - frm) (by omega) (by omega), if_neg (by omega), Int.tmod_eq_emod_of_nonneg (by omega), c3]
        rfl
    · have hr : rowS frm (p :: l.drop (i + t + 1)) acc = (acc, 0) := by rw [rowS, if_neg hin]
      rw [hr] at h ⊢
      simp only [Nat.add_zero] at h
      refine Ev.step (g := fun k => messuageref13_Encode.j3 k l bs frm i (acc - 1) t true) (Ev.step (g := fun k => messuageref13_Encode.j4 k l bs frm i (acc - 1) t p true) (h.step (fun k => ?_) (Nat.le_refl _)) (fun k => ?_) (Nat.le_refl _)) hl2 (by omega)
      · simp only [messuageref13_Encode.j4]
        rfl
      · simp only [messuageref13_Encode.j3]
        rw [if_pos trivial, hix.out, hpe, if_pos (by omega), if_pos (by omega)]
        by_cases c1 : p < frm
        · rw [if_pos c1]
        · rw [if_neg c1, w64 (p - frm) (by omega) (by omega)]
          by_cases c2 : p - frm > 496
          · rw [if_pos c2]
          · rw [if_neg c2, Int.tmod_eq_emod_of_nonneg (by omega)]
            have c3 : ¬ (p - frm) % 8 = 0 := fun c3 => hin (inRow_mk c1 (by omega) c3)
            congr 1
            simp [c3]
theorem flat_cons (n : Int) (ws : List Int) : flat (n :: ws) = putBytes n 8 ++ flat ws := rfl

/-- A place is put down, and what follows. -/
theorem j6_place (l bs : List Int) (hw : Words l) (hlen : l.length ≤ 512) (hbs : bs.length ≤ 100000) (frm : Int) (i : Nat) (hi : i < l.length) (p : Int) (hp : rd l (i : Int) = p) (hp2 : p ≤ 18446744073709551103) (r : List Int × Int) (C : Nat)
    (h : Ev C (fun k => messuageref13_Encode.l1 k l (bs ++ putBytes p 8) (p + 8) ((i + 1 : Nat) : Int)) r) (hC : 9 ≤ C) : Ev (C + 1) (fun k => messuageref13_Encode.j6 k l bs frm i 0 0) r := by
  have hb := hw.at_ (i : Int)
  rw [hp] at hb
  refine Ev.step (g := fun k => (messuageref02_Put.f k bs p 8).bind fun t => messuageref13_Encode.l1 k l t (p + 8) ((i + 1 : Nat) : Int)) (C := C) ?_ (fun k => ?_) (Nat.le_refl _)
  · intro k hk
    simp only
    rw [put_f bs p hbs hb.1 hb.2 k (by omega)]
    exact h k hk
  · simp only [messuageref13_Encode.j6]
    rw [if_neg (by omega), if_pos (by omega), if_pos (by omega), hp, w64 (p + 8) (by omega) (by omega), w64i _ (by omega) (by omega)]
    rfl

set_option maxHeartbeats 1000000 in
theorem l1_ev (l : List Int) (hw : Words l) (hok : ∀ i, i < l.length → okAt l i) (hlen : l.length ≤ 512) : ∀ (d i kq : Nat) (bs : List Int) (frm : Int), l.length - i ≤ d → 0 < i → i ≤ l.length → 2 * (l.length - i) + 2 ≤ kq → 0 ≤ frm → frm < 18446744073709551616 → bs.length ≤ 8 * i →
    Ev (200 * (l.length - i) + 50) (fun k => messuageref13_Encode.l1 k l bs frm i) (bs ++ flat (encR kq (l.drop i) frm), 0) := by
  intro d
  induction d with
  | zero =>
    intro i kq bs frm hd hi0 hi hk hf0 hf1 hbs
    obtain rfl : i = l.length := by omega
    obtain ⟨kq, rfl⟩ : ∃ m, kq = m + 1 + 1 := ⟨kq - 2, by omega⟩
    intro k hk
    obtain ⟨k, rfl⟩ : ∃ m, k = m + 1 := ⟨k - 1, by omega⟩
    simp only [messuageref13_Encode.l1]
    rw [if_neg (by omega), List.drop_length]
    simp [encR, rowS, encW, flat]
  | succ d ih =>
    intro i kq bs frm hd hi0 hi hk hf0 hf1 hbs
    rcases Nat.lt_or_ge i l.length with hlt | hge
    · obtain ⟨kq, rfl⟩ : ∃ m, kq = m + 1 := ⟨kq - 1, by omega⟩
      obtain ⟨rw_, hrw⟩ : ∃ x, (rowS frm (l.drop i) 1).1 = x := ⟨_, rfl⟩
      obtain ⟨tk, htk⟩ : ∃ x, (rowS frm (l.drop i) 1).2 = x := ⟨_, rfl⟩
      have hrr := rowS_range frm (l.drop i) 1 (by omega) (by omega)
      have hrl := rowS_le frm (l.drop i) 1
      rw [hrw] at hrr
      rw [htk, List.length_drop] at hrl
      have hj : ∀ C, Ev C (fun k => messuageref13_Encode.j6 k l bs frm i (rw_ - 1) (tk : Int)) (bs ++ flat (encR (kq + 1) (l.drop i) frm), 0) → Ev (C + 70 * (tk + 1) + 1) (fun k => messuageref13_Encode.l1 k l bs frm i) (bs ++ flat (encR (kq + 1) (l.drop i) frm), 0) := by
        intro C hC
        have := l2_ev l bs hw hok hlen frm hf0 i hi0 (bs ++ flat (encR (kq + 1) (l.drop i) frm), 0) C (l.length - i) 0 1 (by omega) (by omega) (by omega) (by
          intro p hp hin
          obtain ⟨c1, c2, c3⟩ := hin
          have h1 : 1 ≤ ((p - frm) / 8 + 1).toNat := by omega
          have h2 : (2 : Int) ^ 1 ≤ 2 ^ ((p - frm) / 8 + 1).toNat := pow_mono h1
          omega) (by
          simp only [Nat.add_zero, Nat.zero_add]
          rw [hrw, htk]
          exact hC)
        simp only [Nat.add_zero] at this
        rw [htk] at this
        refine this.step (fun k => ?_) (Nat.le_refl _)
        simp only [messuageref13_Encode.l1]
        rw [if_pos (by omega)]
        rfl
      rcases Nat.eq_zero_or_pos tk with ht0 | ht0
      · subst ht0
        have hz : rw_ = 1 := by
          rw [← hrw]
          rw [List.drop_eq_getElem_cons hlt] at htk ⊢
          rw [rowS] at htk ⊢
          split at htk
          · simp at htk
          · rename_i hn
            rw [if_neg hn]
        subst hz
        obtain ⟨p, hpe⟩ : ∃ p, rd l (i : Int) = p := ⟨_, rfl⟩
        have hp2 : p ≤ 18446744073709551103 := by rw [← hpe]; exact (hok i hlt).2.1
        have hp0 : 0 ≤ p := by rw [← hpe]; exact (hw.at_ _).1
        obtain ⟨kq, rfl⟩ : ∃ m, kq = m + 1 := ⟨kq - 1, by omega⟩
        have he : encR (kq + 1 + 1) (l.drop i) frm = p :: encR kq (l.drop (i + 1)) (p + 8) := by
          rw [encR, if_pos htk, List.drop_eq_getElem_cons hlt, ← rd_nat l i hlt, hpe, encW]
        rw [he] at hj ⊢
        have hI := ih (i + 1) kq (bs ++ putBytes p 8) (p + 8) (by omega) (by omega) (by omega) (by omega) (by omega) (by omega) (by rw [List.length_append, putBytes_len]; omega)
        rw [flat_cons, ← List.append_assoc] at hj ⊢
        have hJ := j6_place l bs hw hlen (by omega) frm i hlt p hpe hp2 _ _ hI (by omega)
        exact (hj _ (by simpa using hJ)).more (by omega)
      · have he : encR (kq + 1) (l.drop i) frm = rw_ :: encR kq (l.drop (i + tk)) (frm + 504) := by
          rw [encR, htk, if_neg (by omega), hrw, List.drop_drop]
        have hfo : frm + 504 < 18446744073709551616 := by
          have h1 := htk
          rw [List.drop_eq_getElem_cons hlt] at h1
          have h2 := rowS_first _ _ _ _ (show 0 < (rowS frm (l[i] :: l.drop (i + 1)) 1).2 by omega)
          have h3 := (hok i hlt).2.1
          rw [rd_nat l i hlt] at h3
          have h4 := h2.1
          omega
        rw [he] at hj ⊢
        have hI := ih (i + tk) kq (bs ++ putBytes rw_ 8) (frm + 504) (by omega) (by omega) (by omega) (by omega) (by omega) (by omega) (by rw [List.length_append, putBytes_len]; omega)
        rw [flat_cons, ← List.append_assoc] at hj ⊢
        refine (hj (200 * (l.length - (i + tk)) + 51) ?_).more (by omega)
        refine Ev.step (g := fun k => (messuageref02_Put.f k bs rw_ 8).bind fun t => messuageref13_Encode.l1 k l t (frm + 504) ((i + tk : Nat) : Int)) (C := 200 * (l.length - (i + tk)) + 50) ?_ (fun k => ?_) (Nat.le_refl _)
        · intro k hk
          simp only
          rw [put_f bs rw_ (by omega) hrr.1 hrr.2 k (by omega)]
          exact hI k hk
        · simp only [messuageref13_Encode.j6]
          have e1 : rw_ - 1 + 1 = rw_ := by omega
          rw [if_pos (by omega), e1, w64 rw_ hrr.1 hrr.2, w64 (frm + 504) (by omega) (by omega), w64i _ (by omega) (by omega)]
          rfl
    · exact ih i kq bs frm (by omega) hi0 hi hk hf0 hf1 hbs

theorem start_ev (l : List Int) (hw : Words l) (hok : ∀ i, i < l.length → okAt l i) (hlen : l.length ≤ 512) : Ev (200 * l.length + 100) (fun k => messuageref13_Encode.l1 k l [] 0 0) (flat (encW (2 * l.length + 1) l), 0) := by
  rcases Nat.eq_zero_or_pos l.length with h0 | h0
  · obtain rfl := List.length_eq_zero_iff.1 h0
    intro k hk
    obtain ⟨k, rfl⟩ : ∃ m, k = m + 1 := ⟨k - 1, by omega⟩
    simp [messuageref13_Encode.l1, encW, flat]
  · obtain ⟨p, hpe⟩ : ∃ p, rd l ((0 : Nat) : Int) = p := ⟨_, rfl⟩
    have hp2 : p ≤ 18446744073709551103 := by rw [← hpe]; exact (hok 0 h0).2.1
    have hp0 : 0 ≤ p := by rw [← hpe]; exact (hw.at_ _).1
    have he : encW (2 * l.length + 1) l = p :: encR (2 * l.length) (l.drop 1) (p + 8) := by
      have hd := List.drop_eq_getElem_cons h0
      rw [← rd_nat l 0 h0, hpe, List.drop_zero] at hd
      rw [hd, encW, ← hd]
    rw [he, flat_cons]
    have hI := l1_ev l hw hok hlen (l.length - 1) 1 (2 * l.length) (putBytes p 8) (p + 8) (by omega) (by omega) (by omega) (by omega) (by omega) (by omega) (by rw [putBytes_len]; omega)
    have hJ := j6_place l [] hw hlen (by simp) 0 0 h0 p hpe hp2 _ _ hI (by omega)
    refine Ev.step (g := fun k => messuageref13_Encode.l2 k l [] 0 0 0 0) (Ev.step (g := fun k => messuageref13_Encode.j3 k l [] 0 0 0 0 false) (hJ.step (fun k => ?_) (Nat.le_refl _)) (fun k => ?_) (Nat.le_refl _)) (fun k => ?_) (by omega)
    · simp only [messuageref13_Encode.j3]
      rfl
    · simp only [messuageref13_Encode.l2]
      rw [if_neg (by omega)]
    · simp only [messuageref13_Encode.l1]
      rw [if_pos (by omega)]

theorem valid_ev (l : List Int) (hw : Words l) (hlen : l.length ≤ 512) : ∀ (d i : Nat), l.length - i = d → i ≤ l.length → (∀ j, j < i → okAt l j) →
    Ev (200 * l.length + 100 + d + 1) (fun k => messuageref13_Encode.l0 k l i) (RelrEncPure.encode l) := by
  intro d
  induction d with
  | zero =>
    intro i hd hi hok
    have hall : ∀ j, j < l.length → okAt l j := fun j hj => hok j (by omega)
    have he : RelrEncPure.encode l = (flat (encW (2 * l.length + 1) l), 0) := by
      unfold RelrEncPure.encode
      rw [if_neg (by omega), if_pos hall]
    rw [he]
    refine (start_ev l hw hall hlen).step (fun k => ?_) (by omega)
    simp only [messuageref13_Encode.l0]
    rw [if_neg (by omega)]
  | succ d ih =>
    intro i hd hi hok
    have hlt : i < l.length := by omega
    have hp := hw.at_ (i : Int)
    have hq := hw.at_ ((i : Int) - 1)
    by_cases ho : okAt l i
    · have hI := ih (i + 1) (by omega) (by omega) (fun j hj => by
        rcases Nat.lt_or_ge j i with h | h
        · exact hok j h
        · obtain rfl : j = i := by omega
          exact ho)
      refine hI.step (fun k => ?_) (by omega)
      obtain ⟨o1, o2, o3⟩ := ho
      simp only [messuageref13_Encode.l0]
      rw [if_pos (by omega), if_pos (by omega), Int.tmod_eq_emod_of_nonneg hp.1, if_neg (by omega), if_neg (by omega)]
      have e1 : Aside0 (wrap64 ((i : Int) + 1) = ((i + 1 : Nat) : Int)) := ⟨by rw [w64i _ (by omega) (by omega)]; rfl⟩
      by_cases hi0 : i = 0
      · rw [if_neg (by omega), e1.out]
      · have o4 := o3.resolve_left hi0
        rw [if_pos (by omega), w64i ((i : Int) - 1) (by omega) (by omega), if_pos (by omega), if_pos (by omega), if_neg (by omega), w64 _ (by omega) (by omega), if_neg (by omega), e1.out]
    · have he : RelrEncPure.encode l = ([], 130) := by
        unfold RelrEncPure.encode
        rw [if_neg (by omega), if_neg (fun h => ho (h i hlt))]
      rw [he]
      intro k hk
      obtain ⟨k, rfl⟩ : ∃ m, k = m + 1 := ⟨k - 1, by omega⟩
      simp only [messuageref13_Encode.l0]
      rw [if_pos (by omega), if_pos (by omega), Int.tmod_eq_emod_of_nonneg hp.1]
      by_cases b1 : rd l (i : Int) % 2 = 1
      · rw [if_pos b1]
      · rw [if_neg b1]
        by_cases b2 : rd l (i : Int) > 18446744073709551103
        · rw [if_pos b2]
        · rw [if_neg b2]
          have hi0 : i ≠ 0 := fun h => ho ⟨by omega, by omega, .inl h⟩
          rw [if_pos (by omega), w64i ((i : Int) - 1) (by omega) (by omega), if_pos (by omega), if_pos (by omega)]
          by_cases b3 : rd l (i : Int) < rd l ((i : Int) - 1)
          · rw [if_pos b3]
          · rw [if_neg b3, w64 _ (by omega) (by omega)]
            by_cases b4 : rd l (i : Int) - rd l ((i : Int) - 1) < 8
            · rw [if_pos b4]
            · exact absurd ⟨by omega, by omega, .inr ⟨by omega, by omega⟩⟩ ho
theorem ref_encode (l : List Int) (hw : Words l) : Ev 120000 (fun k => messuageref13_Encode.f k l) (RelrEncPure.encode l) := by
  by_cases hl : l.length > 512
  · intro k _
    show messuageref13_Encode.f k l = _
    unfold messuageref13_Encode.f RelrEncPure.encode
    rw [if_pos (by omega), if_pos hl]
  · have := valid_ev l hw (by omega) l.length 0 rfl (Nat.zero_le _) (fun j hj => absurd hj (Nat.not_lt_zero _))
    intro k hk
    show messuageref13_Encode.f k l = _
    unfold messuageref13_Encode.f
    rw [if_neg (by omega)]
    exact this k (by omega)

theorem RelrWrites : messuagelaw13_RelrWrites.Pure := by
  intro l hl1 hl2 hw
  have hb := words_of hw
  refine ⟨120000, ?_⟩
  unfold messuagelaw13_RelrWrites.f
  by_cases h : (l.length : Int) > 1000
  · rw [if_pos h]
  · rw [if_neg h, encode_f hb, show messuageref13_Encode.f 120000 l = _ from ref_encode l hb 120000 (Nat.le_refl _)]
    simp only [Option.bind_some, if_true]
    rw [alive_yes]
    rfl
end Go.Proofs.Ytpddjphanhkkfaa.Pure
