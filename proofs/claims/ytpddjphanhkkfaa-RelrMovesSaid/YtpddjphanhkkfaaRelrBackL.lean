/- What is written is read. No condition. -/
import Derived.Test.YtpddjphanhkkfaaRelrFacts
import Derived.Test.YtpddjphanhkkfaaRelrRow
namespace Go.Proofs.Ytpddjphanhkkfaa.RelrBackL
open Go.Proofs.Ytpddjphanhkkfaa.RelrFacts Go.Proofs.Ytpddjphanhkkfaa.RelrRow Go.RowKit Go.Proofs.Ytpddjphanhkkfaa.RelrPure Go.Proofs.Ytpddjphanhkkfaa.Buf Go.Proofs.Ytpddjphanhkkfaa.RelrIter Go.Proofs.Ytpddjphanhkkfaa.RelrEncPure Go.Proofs.YtpddjphanhkkfaaW.PrintWords

theorem bit_zero (acc : Int) (i m : Nat) (h0 : 0 ≤ acc) (h1 : acc < 2 ^ (m + 1)) (h : m ≤ i) : ¬ Go.bits .and .u64 (acc / 2 ^ (i + 1)) 1 = 1 := by
  have h2 : (2 : Int) ^ (m + 1) ≤ 2 ^ (i + 1) := pow_mono (by omega)
  have h3 : acc / 2 ^ (i + 1) = 0 := Int.ediv_eq_zero_of_lt h0 (by omega)
  rw [h3]
  decide
theorem upto_above (acc frm : Int) (m : Nat) (h0 : 0 ≤ acc) (h1 : acc < 2 ^ (m + 1)) : ∀ k, m ≤ k → upto acc frm k = upto acc frm m := by
  intro k hk
  induction hk with
  | refl => rfl
  | step hk ih => rw [upto, if_neg (bit_zero acc _ m h0 h1 hk), ih]
theorem add_div (acc : Int) (e j : Nat) (h : j < e) : (acc + 2 ^ (e + 1)) / 2 ^ (j + 1) % 2 = acc / 2 ^ (j + 1) % 2 := by
  have hp : (0 : Int) < 2 ^ (j + 1) := Int.pow_pos (by decide)
  have he : (2 : Int) ^ (e + 1) = 2 ^ (j + 1) * (2 * 2 ^ (e - j - 1)) := by
    rw [show (2 : Int) * 2 ^ (e - j - 1) = 2 ^ (e - j) by rw [Int.mul_comm, ← Int.pow_succ]; congr 1; omega, ← Int.pow_add]
    congr 1
    omega
  rw [he, Int.add_mul_ediv_left _ _ (by omega)]
  omega
theorem bits_of (x : Int) (h0 : 0 ≤ x) (h1 : x < 18446744073709551616) : Go.bits .and .u64 x 1 = x % 2 := and_one x h0 h1
theorem div_in (x : Int) (j : Nat) (h0 : 0 ≤ x) (h1 : x < 18446744073709551616) : 0 ≤ x / 2 ^ j ∧ x / 2 ^ j < 18446744073709551616 := by
  have h2 : 0 ≤ x / 2 ^ j := Int.ediv_nonneg h0 (Int.le_of_lt (Int.pow_pos (by decide)))
  have h3 : x / 2 ^ j ≤ x := Int.ediv_le_self _ h0
  omega
theorem upto_below (acc frm : Int) (e : Nat) (h0 : 0 ≤ acc) (h1 : acc + 2 ^ (e + 1) < 18446744073709551616) : ∀ i, i ≤ e → upto (acc + 2 ^ (e + 1)) frm i = upto acc frm i := by
  have hp : (0 : Int) < 2 ^ (e + 1) := Int.pow_pos (by decide)
  intro i
  induction i with
  | zero => intro _; rfl
  | succ i ih =>
    intro hi
    have d1 := div_in (acc + 2 ^ (e + 1)) (i + 1) (by omega) h1
    have d2 := div_in acc (i + 1) h0 (by omega)
    rw [upto, upto, ih (by omega), bits_of _ d1.1 d1.2, bits_of _ d2.1 d2.2, add_div acc e i (by omega)]
theorem bit_one (acc : Int) (e : Nat) (h0 : 0 ≤ acc) (h1 : acc < 2 ^ (e + 1)) : Go.bits .and .u64 ((acc + 2 ^ (e + 1)) / 2 ^ (e + 1)) 1 = 1 := by
  have hp : (0 : Int) < 2 ^ (e + 1) := Int.pow_pos (by decide)
  have : (acc + 2 ^ (e + 1)) / 2 ^ (e + 1) = 1 := by
    rw [show acc + 2 ^ (e + 1) = acc + 2 ^ (e + 1) * 1 by omega, Int.add_mul_ediv_left _ _ (by omega), Int.ediv_eq_zero_of_lt h0 h1]
    rfl
  rw [this]
  decide

/-- Each a word apart from the next at least. -/
def Apart8 : List Int → Prop
  | [] => True
  | [_] => True
  | a :: b :: t => 8 ≤ b - a ∧ Apart8 (b :: t)
theorem Apart8.tail {p : Int} {ps : List Int} (h : Apart8 (p :: ps)) : Apart8 ps := by
  cases ps with
  | nil => trivial
  | cons q t => exact h.2
theorem Apart8.drop : ∀ (k : Nat) {ps : List Int}, Apart8 ps → Apart8 (ps.drop k)
  | 0, _, h => h
  | _ + 1, [], _ => trivial
  | k + 1, _ :: _, h => Apart8.drop k h.tail

theorem row_read (frm : Int) (hf : 0 ≤ frm) : ∀ (ps : List Int) (acc : Int) (m : Nat), Apart8 ps → (∀ p ∈ ps, p < 18446744073709551616) → (∀ p t, ps = p :: t → inRow frm p → (m : Int) ≤ (p - frm) / 8) → 1 ≤ acc → acc % 2 = 1 → acc < 2 ^ (m + 1) → m ≤ 63 →
    upto (rowS frm ps acc).1 frm 63 = upto acc frm m ++ ps.take (rowS frm ps acc).2 ∧ (rowS frm ps acc).1 % 2 = 1
  | [], acc, m, _, _, _, h1, ho, h2, hm => by
    rw [rowS]
    exact ⟨by rw [upto_above acc frm m (by omega) h2 63 hm]; simp, ho⟩
  | p :: ps, acc, m, ha, hb, hn, h1, ho, h2, hm => by
    rw [rowS]
    by_cases hin : inRow frm p
    · have hm' := hn p ps rfl hin
      obtain ⟨c1, c2, c3⟩ := hin
      obtain ⟨e, he⟩ : ∃ e : Nat, (p - frm) / 8 = e := ⟨((p - frm) / 8).toNat, by omega⟩
      have hee : ((p - frm) / 8 + 1).toNat = e + 1 := by omega
      have hpf : p = frm + 8 * e := by omega
      have he62 : e ≤ 62 := by omega
      have hme : m ≤ e := by omega
      have hacc : acc < 2 ^ (e + 1) := by
        have : (2 : Int) ^ (m + 1) ≤ 2 ^ (e + 1) := pow_mono (by omega)
        omega
      have hs := pow_small63 e he62
      have hpos : (0 : Int) < 2 ^ (e + 1) := Int.pow_pos (by decide)
      have hev : (2 : Int) ^ (e + 1) % 2 = 0 := by rw [Int.pow_succ]; omega
      have hs2 : (2 : Int) ^ (e + 1 + 1) = 2 ^ (e + 1) * 2 := Int.pow_succ _ _
      rw [if_pos (inRow_mk c1 c2 c3), hee, or_pow acc (e + 1) (by omega) hacc (by omega)]
      have hI := row_read frm hf ps (acc + 2 ^ (e + 1)) (e + 1) ha.tail (fun q hq => hb q (List.mem_cons_of_mem _ hq)) (by
        intro q t hq hqin
        subst hq
        have h8 := ha.1
        omega) (by omega) (by omega) (by omega) (by omega)
      refine ⟨?_, hI.2⟩
      rw [hI.1, upto, if_pos (bit_one acc e (by omega) hacc), upto_below acc frm e (by omega) (by omega) e (Nat.le_refl _), upto_above acc frm m (by omega) h2 e hme, w64 _ (by omega) (by have := hb p (List.mem_cons_self ..); omega), ← hpf, List.take_succ_cons, List.append_assoc]
      rfl
    · rw [if_neg hin]
      exact ⟨by rw [upto_above acc frm m (by omega) h2 63 hm]; simp, ho⟩

/-- Places that can be told. -/
structure Good (ps : List Int) : Prop where
  apart : Apart8 ps
  even : ∀ p ∈ ps, p % 2 = 0
  low : ∀ p ∈ ps, 0 ≤ p ∧ p ≤ 18446744073709551103
theorem Good.tail {p : Int} {ps : List Int} (h : Good (p :: ps)) : Good ps := ⟨h.apart.tail, fun q hq => h.even q (List.mem_cons_of_mem _ hq), fun q hq => h.low q (List.mem_cons_of_mem _ hq)⟩
theorem Good.drop {ps : List Int} (h : Good ps) (k : Nat) : Good (ps.drop k) := ⟨h.apart.drop k, fun q hq => h.even q (List.mem_of_mem_drop hq), fun q hq => h.low q (List.mem_of_mem_drop hq)⟩

theorem read_back : ∀ (k : Nat), (∀ (ps out : List Int) (frm : Int) (any : Bool), 2 * ps.length + 1 ≤ k → Good ps → out.length + ps.length ≤ 512 → dec (encW k ps) out frm any = (out ++ ps, 0) ∧ (encW k ps).length ≤ ps.length) ∧
    (∀ (ps out : List Int) (frm : Int), 2 * ps.length + 2 ≤ k → Good ps → out.length + ps.length ≤ 512 → 0 ≤ frm → frm < 18446744073709551616 → dec (encR k ps frm) out frm true = (out ++ ps, 0) ∧ (encR k ps frm).length ≤ ps.length)
  | 0 => ⟨fun _ _ _ _ h _ _ => by omega, fun _ _ _ h _ _ _ _ => by omega⟩
  | k + 1 => by
    obtain ⟨ih1, ih2⟩ := read_back k
    refine ⟨?_, ?_⟩
    · intro ps out frm any hk hg hl
      cases ps with
      | nil => simp [encW, dec]
      | cons p ps =>
        have he := hg.even p (List.mem_cons_self ..)
        have hlo := hg.low p (List.mem_cons_self ..)
        rw [List.length_cons] at hk hl
        have hI := ih2 ps (out ++ [p]) (p + 8) (by omega) hg.tail (by rw [List.length_append, List.length_singleton]; omega) (by omega) (by omega)
        rw [encW, dec, if_pos he, if_neg (by omega), if_neg (by omega)]
        exact ⟨by rw [hI.1, List.append_assoc]; rfl, by rw [List.length_cons, List.length_cons]; omega⟩
    · intro ps out frm hk hg hl hf0 hf1
      rw [encR]
      by_cases ht : (rowS frm ps 1).2 = 0
      · rw [if_pos ht]
        exact ih1 ps out frm true (by omega) hg hl
      · rw [if_neg ht]
        have hr := row_read frm hf0 ps 1 0 hg.apart (fun p hp => by have := hg.low p hp; omega) (fun p t _ hin => by obtain ⟨c1, c2, c3⟩ := hin; omega) (by omega) (by omega) (by decide) (by omega)
        have hle := rowS_le frm ps 1
        have hfo : frm + 504 ≤ 18446744073709551615 := by
          cases ps with
          | nil => simp [rowS] at ht
          | cons p t =>
            have h2 := rowS_first frm p t 1 (by omega)
            have h3 := hg.low p (List.mem_cons_self ..)
            have h4 := h2.1
            omega
        generalize (rowS frm ps 1).1 = n at hr
        generalize (rowS frm ps 1).2 = tk at hr hle ht
        obtain ⟨hu, ho⟩ := hr
        have hu2 : upto n frm 63 = ps.take tk := by rw [hu]; rfl
        have hI := ih2 (ps.drop tk) (out ++ ps.take tk) (frm + 504) (by rw [List.length_drop]; omega) (hg.drop tk) (by rw [List.length_append, List.length_take, List.length_drop]; omega) (by omega) (by omega)
        rw [dec, if_neg (by omega), if_pos rfl, if_neg (by omega), hu2, if_neg (by rw [List.length_append, List.length_take]; omega)]
        refine ⟨by rw [hI.1, List.append_assoc, List.take_append_drop], ?_⟩
        have := hI.2
        rw [List.length_drop] at this
        rw [List.length_cons]
        omega

theorem leVal_put : ∀ (k : Nat) (n : Int), 0 ≤ n → n < 256 ^ k → leVal (putBytes n k) = n
  | 0, n, h0, h1 => by simp at h1; simp [putBytes, leVal]; omega
  | k + 1, n, h0, h1 => by
    rw [Int.pow_succ] at h1
    have h2 : n / 256 < 256 ^ k := Int.ediv_lt_of_lt_mul (by decide) h1
    rw [putBytes, leVal, leVal_put k (n / 256) (by omega) h2]
    omega
theorem flat_len (ws : List Int) : (flat ws).length = 8 * ws.length := by
  induction ws with
  | nil => rfl
  | cons n ws ih =>
    show (putBytes n 8 ++ flat ws).length = _
    rw [List.length_append, putBytes_len, ih, List.length_cons]
    omega
theorem flat_drop : ∀ (ws : List Int) (k : Nat), (flat ws).drop (8 * k) = flat (ws.drop k)
  | _, 0 => rfl
  | [], k + 1 => by simp [flat]
  | n :: ws, k + 1 => by
    show (putBytes n 8 ++ flat ws).drop (8 * (k + 1)) = _
    rw [List.drop_append, List.drop_eq_nil_of_le (by rw [putBytes_len]; omega), List.nil_append, putBytes_len, show 8 * (k + 1) - 8 = 8 * k by omega, flat_drop ws k]
    rfl
theorem word_flat (ws : List Int) (hw : ∀ n ∈ ws, 0 ≤ n ∧ n < 18446744073709551616) (k : Nat) (h : k < ws.length) : word (flat ws) k = ws[k] := by
  have hb := hw ws[k] (List.getElem_mem h)
  unfold word
  rw [flat_drop, List.drop_eq_getElem_cons h]
  show leVal ((putBytes ws[k] 8 ++ flat (ws.drop (k + 1))).take 8) = _
  rw [List.take_append_of_le_length (by rw [putBytes_len]; omega), List.take_of_length_le (by rw [putBytes_len]; omega)]
  exact leVal_put 8 _ hb.1 hb.2
theorem words_flat (ws : List Int) (hw : ∀ n ∈ ws, 0 ≤ n ∧ n < 18446744073709551616) : words (flat ws) = ws := by
  apply List.ext_getElem
  · rw [words_len, flat_len]
    omega
  · intro i h1 h2
    simp only [words, List.getElem_map, List.getElem_range]
    exact word_flat ws hw i h2
theorem put_in : ∀ (k : Nat) (n : Int), ∀ x ∈ putBytes n k, 0 ≤ x ∧ x ≤ 255
  | 0, _, x, hx => by simp [putBytes] at hx
  | k + 1, n, x, hx => by
    rw [putBytes] at hx
    rcases List.mem_cons.1 hx with rfl | hx
    · omega
    · exact put_in k _ x hx
theorem flat_bytes (ws : List Int) : Bytes (flat ws) := by
  intro x hx
  simp only [flat, List.mem_flatMap] at hx
  obtain ⟨n, _, hx⟩ := hx
  exact put_in 8 n x hx
theorem enc_in : ∀ (k : Nat), (∀ ps : List Int, Good ps → ∀ n ∈ encW k ps, 0 ≤ n ∧ n < 18446744073709551616) ∧ (∀ (ps : List Int) (frm : Int), Good ps → ∀ n ∈ encR k ps frm, 0 ≤ n ∧ n < 18446744073709551616)
  | 0 => ⟨fun _ _ n hn => by simp [encW] at hn, fun _ _ _ n hn => by simp [encR] at hn⟩
  | k + 1 => by
    obtain ⟨ih1, ih2⟩ := enc_in k
    refine ⟨fun ps hg n hn => ?_, fun ps frm hg n hn => ?_⟩
    · cases ps with
      | nil => simp [encW] at hn
      | cons p ps =>
        rw [encW] at hn
        rcases List.mem_cons.1 hn with rfl | hn
        · have := hg.low n (List.mem_cons_self ..)
          omega
        · exact ih2 ps _ hg.tail n hn
    · rw [encR] at hn
      split at hn
      · exact ih1 ps hg n hn
      · rcases List.mem_cons.1 hn with rfl | hn
        · exact rowS_range frm ps 1 (by omega) (by omega)
        · exact ih2 _ _ (hg.drop _) n hn
theorem apart_of (l : List Int) (h : ∀ i, i < l.length → okAt l i) : Apart8 l := by
  have key : ∀ (d i : Nat), l.length - i = d → Apart8 (l.drop i) := by
    intro d
    induction d with
    | zero => intro i hd; rw [List.drop_eq_nil_of_le (by omega)]; trivial
    | succ d ih =>
      intro i hd
      rw [List.drop_eq_getElem_cons (by omega)]
      have hI := ih (i + 1) (by omega)
      rcases Nat.lt_or_ge (i + 1) l.length with hlt | hge
      · rw [List.drop_eq_getElem_cons hlt] at hI ⊢
        refine ⟨?_, hI⟩
        have ho := (h (i + 1) hlt).2.2
        rw [show ((i + 1 : Nat) : Int) - 1 = (i : Int) by omega, rd_nat l i (by omega), rd_nat l (i + 1) hlt] at ho
        rcases ho with ho | ho
        · omega
        · exact ho.2
      · rw [List.drop_eq_nil_of_le hge]
        trivial
  have := key l.length 0 rfl
  simpa using this
theorem good_of (l : List Int) (hw : Words l) (h : ∀ i, i < l.length → okAt l i) : Good l := by
  refine ⟨apart_of l h, fun p hp => ?_, fun p hp => ?_⟩
  · obtain ⟨i, hi, rfl⟩ := List.getElem_of_mem hp
    have := (h i hi).1
    rwa [rd_nat l i hi] at this
  · obtain ⟨i, hi, rfl⟩ := List.getElem_of_mem hp
    have := (h i hi).2.1
    rw [rd_nat l i hi] at this
    exact ⟨(hw _ hp).1, this⟩
theorem back (l : List Int) (hw : Words l) (b : List Int) (h : RelrEncPure.encode l = (b, 0)) : RelrPure.decode b = (l, 0) ∧ b.length ≤ 8 * l.length ∧ Bytes b := by
  unfold RelrEncPure.encode at h
  split at h
  · cases h
  · split at h
    · rename_i hl hok
      have hg := good_of l hw hok
      obtain ⟨rfl, _⟩ := Prod.mk.inj h
      have hr := (read_back (2 * l.length + 1)).1 l [] 0 false (Nat.le_refl _) hg (by simp; omega)
      have hin := (enc_in (2 * l.length + 1)).1 l hg
      refine ⟨?_, ?_, flat_bytes _⟩
      · unfold RelrPure.decode
        rw [if_neg (by rw [flat_len]; omega), words_flat _ hin]
        exact hr.1
      · rw [flat_len]
        omega
    · cases h
theorem encode_err (l : List Int) : (RelrEncPure.encode l).2 = 0 ∨ (RelrEncPure.encode l).1 = [] := by
  unfold RelrEncPure.encode
  split
  · exact .inr rfl
  · split
    · exact .inl rfl
    · exact .inr rfl
end Go.Proofs.Ytpddjphanhkkfaa.RelrBackL
