/-
  What the printed functions of package path and of its reference compute, said in lists of bytes: each answers, given rounds enough, with the plain function of PathL. Conditions: the sizes that stand in each lemma.
-/
import Derived.Test.YtbkhkdadipigfaaDoorPathL
import Derived.Test.YtbkhkdadipigfaaDoorPx6
import Derived.Test.YtbkhkdadipigfaaDoorPx7
import Derived.IntWalk
namespace Go.Proofs.YtbkhkdadipigfaaDoor.PathEq
open Go.RowKit Go.Proofs.YtbkhkdadipigfaaDoor.P Go.Proofs.YtbkhkdadipigfaaDoorW.PrintWords Go.Proofs.YtbkhkdadipigfaaDoorW.PrintLast
open Go.Proofs.YtbkhkdadipigfaaDoor.PathL

theorem w1 (i : Nat) (h : i < 1000000) : wrap64 ((i : Int) + 1) = ((i + 1 : Nat) : Int) := by
  rw [IntWalk.wrap64_in _ (by omega)]; rfl
theorem bt_get (s : ByteArray) (i : Nat) (h : i < s.data.toList.length) : bt s (i : Int) = ((s.data.toList[i]'h).toNat : Int) := by
  have h' : (i : Int).toNat < s.size := by rw [data_len] at h; simpa using h
  unfold bt
  rw [dif_pos h']
  rfl
theorem u8_eq (b c : UInt8) : (b.toNat : Int) = (c.toNat : Int) ↔ b = c := by
  constructor
  · intro h; exact UInt8.toNat_inj.1 (by omega)
  · rintro rfl; rfl
theorem tl (a : ByteArray) : a.toList = a.data.toList := Lib.toList_data a
theorem mt (l : Bs) : (mkB l).toList = l := by rw [tl, mkB_data]
theorem rdOf_get (xs : List ByteArray) (i : Nat) (h : i < xs.length) : rdOf ByteArray.empty xs (i : Int) = xs[i] := by
  unfold rdOf
  simp [List.getD_eq_getElem?_getD, h]

/-! ### a good path -/
def okb (b : UInt8) : Bool := decide (33 ≤ b.toNat) && decide (b.toNat ≤ 126)
theorem good_l0 (p : ByteArray) (hp : p.size ≤ 900000) (d : Nat) : ∀ (k i : Nat), i ≤ p.size → p.size - i = d → d < k → path_good.l0 k p (p.size : Int) i = some ((p.data.toList.drop i).all okb) := by
  induction d with
  | zero =>
    intro k i hi hd hk
    obtain ⟨k, rfl⟩ : ∃ n, k = n + 1 := ⟨k - 1, by omega⟩
    simp only [path_good.l0]
    rw [if_neg (by omega), List.drop_eq_nil_of_le (by rw [data_len]; omega)]
    rfl
  | succ d ih =>
    intro k i hi hd hk
    obtain ⟨k, rfl⟩ : ∃ n, k = n + 1 := ⟨k - 1, by omega⟩
    have hl : i < p.data.toList.length := by rw [data_len]; omega
    simp only [path_good.l0]
    rw [if_pos (by omega), if_pos (by omega), if_pos (by omega), bt_get p i hl, w1 i (by omega), ih k (i + 1) (by omega) (by omega) (by omega), List.drop_eq_getElem_cons hl, List.all_cons]
    generalize p.data.toList[i] = b
    by_cases h1 : (b.toNat : Int) < 33
    · rw [if_pos h1]
      have : okb b = false := by unfold okb; simp; omega
      rw [this]; rfl
    · rw [if_neg h1]
      by_cases h2 : (b.toNat : Int) > 126
      · rw [if_pos h2]
        have : okb b = false := by unfold okb; simp; omega
        rw [this]; rfl
      · rw [if_neg h2]
        have : okb b = true := by unfold okb; simp; omega
        rw [this]; rfl
theorem isGood_eq (l : Bs) : isGood l = (decide (l.length ≤ 256) && l.all okb) := rfl
theorem good_eq (p : ByteArray) (k : Nat) (hk : p.size + 1 < k) (hp : p.size ≤ 900000) : path_good.f k p = some (isGood p.data.toList) := by
  unfold path_good.f
  rw [isGood_eq, data_len]
  by_cases h : (p.size : Int) > 256
  · rw [if_pos h]
    have : decide (p.size ≤ 256) = false := by simp; omega
    rw [this]; rfl
  · rw [if_neg h]
    have := good_l0 p hp p.size k 0 (by omega) (by omega) (by omega)
    rw [show ((0 : Nat) : Int) = 0 from rfl] at this
    rw [this]
    have : decide (p.size ≤ 256) = true := by simp; omega
    rw [this]; simp
theorem rgood_l0 (p : ByteArray) (hp : p.size ≤ 900000) (d : Nat) : ∀ (k i : Nat), i ≤ p.size → p.size - i = d → d < k → messuageref04_good.l0 k p i = some ((p.data.toList.drop i).all okb && decide (p.size ≤ 256)) := by
  induction d with
  | zero =>
    intro k i hi hd hk
    obtain ⟨k, rfl⟩ : ∃ n, k = n + 1 := ⟨k - 1, by omega⟩
    simp only [messuageref04_good.l0]
    rw [if_neg (by omega), List.drop_eq_nil_of_le (by rw [data_len]; omega)]
    congr 1
    simp
    omega
  | succ d ih =>
    intro k i hi hd hk
    obtain ⟨k, rfl⟩ : ∃ n, k = n + 1 := ⟨k - 1, by omega⟩
    have hl : i < p.data.toList.length := by rw [data_len]; omega
    simp only [messuageref04_good.l0]
    rw [if_pos (by omega), if_pos (by omega), bt_get p i hl, w1 i (by omega), ih k (i + 1) (by omega) (by omega) (by omega), List.drop_eq_getElem_cons hl, List.all_cons]
    generalize p.data.toList[i] = b
    by_cases h1 : (b.toNat : Int) ≤ 32
    · rw [if_pos h1]
      have : okb b = false := by unfold okb; simp; omega
      rw [this]; rfl
    · rw [if_neg h1]
      by_cases h2 : (b.toNat : Int) > 126
      · rw [if_pos h2]
        have : okb b = false := by unfold okb; simp; omega
        rw [this]; rfl
      · rw [if_neg h2]
        have : okb b = true := by unfold okb; simp; omega
        rw [this]; rfl
theorem rgood_eq (p : ByteArray) (k : Nat) (hk : p.size + 1 < k) (hp : p.size ≤ 900000) : messuageref04_good.f k p = some (isGood p.data.toList) := by
  unfold messuageref04_good.f
  have := rgood_l0 p hp p.size k 0 (by omega) (by omega) (by omega)
  rw [show ((0 : Nat) : Int) = 0 from rfl] at this
  rw [this, isGood_eq, data_len, List.drop_zero, Bool.and_comm]

/-! ### cutting -/
theorem split_eq (p : ByteArray) (c : UInt8) (hp : p.size ≤ 900000) : strings_Split.f p ⟨#[c]⟩ = some ((split1 c p.data.toList).map mkB) := by
  unfold strings_Split.f
  rw [if_pos (by omega), if_pos (by show 1 ≤ (⟨#[c]⟩ : ByteArray).size; exact Nat.le_refl _)]
  congr 1
  have h := splitB_split1 c _ p rfl
  rw [← h, List.map_map]
  have : (mkB ∘ fun x : ByteArray => x.data.toList) = id := by funext x; exact mkB_of x
  rw [this, List.map_id]

theorem extract_l (p : ByteArray) (a b : Nat) : p.extract a b = mkB ((p.data.toList.drop a).take (b - a)) := by
  apply bext; rw [Lib.extract_data, mkB_data]

theorem rsplit_l0 (p : ByteArray) (c : UInt8) (hp : p.size ≤ 900000) (d : Nat) : ∀ (k : Nat) (out : List ByteArray) (from_ i : Nat), from_ ≤ i → i ≤ p.size → p.size - i = d → d + 1 < k → out.length + (p.size + 1 - i) ≤ 1000000 → (c ∉ (p.data.toList.drop from_).take (i - from_)) →
    messuageref04_Split.l0 k p (c.toNat : Int) out from_ i = some (out ++ (split1 c (p.data.toList.drop from_)).map mkB) := by
  induction d with
  | zero =>
    intro k out a i ha hi hd hk ho hc
    obtain ⟨k, rfl⟩ : ∃ n, k = n + 1 := ⟨k - 1, by omega⟩
    obtain rfl : i = p.size := by omega
    have hcut : (p.data.toList.drop a).take (p.size - a) = p.data.toList.drop a := List.take_of_length_le (by rw [List.length_drop, data_len]; omega)
    simp only [messuageref04_Split.l0]
    rw [if_pos (by omega), if_pos (by trivial), if_pos (by omega), if_pos (by omega), if_pos (by omega), w1 p.size (by omega)]
    obtain ⟨k, rfl⟩ : ∃ n, k = n + 1 := ⟨k - 1, by omega⟩
    simp only [messuageref04_Split.l0]
    rw [if_neg (by omega)]
    rw [hcut] at hc
    rw [split1_none c _ hc, show ((a : Int)).toNat = a from rfl, show ((p.size : Int)).toNat = p.size from rfl, extract_l, hcut]
    rfl
  | succ d ih =>
    intro k out a i ha hi hd hk ho hc
    obtain ⟨k, rfl⟩ : ∃ n, k = n + 1 := ⟨k - 1, by omega⟩
    have hl : i < p.data.toList.length := by rw [data_len]; omega
    simp only [messuageref04_Split.l0]
    rw [if_pos (by omega), if_neg (by omega), if_pos (by omega), if_pos (by omega), bt_get p i hl, w1 i (by omega)]
    have hsplit : p.data.toList.drop a = (p.data.toList.drop a).take (i - a) ++ p.data.toList[i] :: p.data.toList.drop (i + 1) := by
      have h1 := (List.take_append_drop (i - a) (p.data.toList.drop a)).symm
      rw [List.drop_drop, show a + (i - a) = i by omega, List.drop_eq_getElem_cons hl] at h1
      exact h1
    by_cases hb : p.data.toList[i] = c
    · rw [if_pos ((u8_eq _ _).2 hb), if_pos (by omega), if_pos (by omega), if_pos (by omega)]
      rw [ih k _ (i + 1) (i + 1) (Nat.le_refl _) (by omega) (by omega) (by omega) (by simp; omega) (by simp)]
      rw [hsplit, hb, split1_hit c _ _ hc, show ((a : Int)).toNat = a from rfl, show ((i : Int)).toNat = i from rfl, extract_l]
      simp
    · rw [if_neg (fun h => hb ((u8_eq _ _).1 h))]
      refine ih k out a (i + 1) (by omega) (by omega) (by omega) (by omega) (by omega) ?_
      have e : (p.data.toList.drop a).take (i + 1 - a) = (p.data.toList.drop a).take (i - a) ++ [p.data.toList[i]] := by
        have hlen : i - a < (p.data.toList.drop a).length := by rw [List.length_drop]; omega
        rw [show i + 1 - a = (i - a) + 1 by omega, List.take_succ_eq_append_getElem hlen]
        congr 2
        rw [List.getElem_drop]
        congr 1
        omega
      rw [e]
      intro hm
      rcases List.mem_append.1 hm with hm | hm
      · exact hc hm
      · exact hb (List.mem_singleton.1 hm).symm

theorem rsplit_eq (p : ByteArray) (c : UInt8) (k : Nat) (hk : p.size + 2 < k) (hp : p.size ≤ 900000) : messuageref04_Split.f k p (c.toNat : Int) = some ((split1 c p.data.toList).map mkB) := by
  unfold messuageref04_Split.f
  have := rsplit_l0 p c hp p.size k [] 0 0 (by omega) (by omega) (by omega) (by omega) (by simp; omega) (by simp)
  rw [show ((0 : Nat) : Int) = 0 from rfl] at this
  rw [this]
  simp

/-! ### the names -/
def keepB (s : ByteArray) : Bool := !(s.data.toList == []) && !(s.data.toList == [46])
theorem keep_true {s : ByteArray} (h1 : ¬ s.data.toList = []) (h2 : ¬ s.data.toList = [46]) : keepB s = true := by
  unfold keepB
  rw [beq_eq_false_iff_ne.2 h1, beq_eq_false_iff_ne.2 h2]
  rfl
theorem keep_map (ls : List Bs) : (ls.map mkB).filter keepB = (ls.filter fun s => !(s == []) && !(s == [46])).map mkB := by
  rw [List.filter_map]
  rfl

theorem parts_l0 (xs : List ByteArray) (hx : xs.length ≤ 950000) (d : Nat) : ∀ (k : Nat) (acc : List ByteArray) (i : Nat), i ≤ xs.length → xs.length - i = d → d < k → acc.length + d ≤ 1000000 →
    path_Parts.l0 k acc xs (xs.length : Int) i = some (acc ++ (xs.drop i).filter keepB) := by
  induction d with
  | zero =>
    intro k acc i hi hd hk ha
    obtain ⟨k, rfl⟩ : ∃ n, k = n + 1 := ⟨k - 1, by omega⟩
    simp only [path_Parts.l0]
    rw [if_neg (by omega), List.drop_eq_nil_of_le (by omega)]
    simp
  | succ d ih =>
    intro k acc i hi hd hk ha
    obtain ⟨k, rfl⟩ : ∃ n, k = n + 1 := ⟨k - 1, by omega⟩
    have hl : i < xs.length := by omega
    simp only [path_Parts.l0]
    rw [if_pos (by omega), if_pos (by omega), if_pos (by omega), rdOf_get xs i hl, w1 i (by omega), List.drop_eq_getElem_cons hl, tl]
    generalize xs[i] = s
    by_cases h1 : s.data.toList = []
    · rw [if_pos h1, ih k acc (i + 1) (by omega) (by omega) (by omega) (by omega), List.filter_cons_of_neg (by simp [keepB, h1])]
    · rw [if_neg h1]
      by_cases h2 : s.data.toList = [46]
      · rw [if_pos h2, ih k acc (i + 1) (by omega) (by omega) (by omega) (by omega), List.filter_cons_of_neg (by simp [keepB, h2])]
      · rw [if_neg h2, if_pos (by omega), ih k _ (i + 1) (by omega) (by omega) (by omega) (by simp; omega), List.filter_cons_of_pos (keep_true h1 h2)]
        simp

theorem split1_len (c : UInt8) (l : Bs) : (split1 c l).length ≤ l.length + 1 := by
  induction l with
  | nil => simp [split1]
  | cons b l ih =>
    unfold split1
    split
    · simp; omega
    · cases hq : split1 c l with
      | nil => exact absurd hq (split1_ne c l)
      | cons u v => rw [hq] at ih; simp at ih ⊢; omega

theorem parts_eq (p : ByteArray) (k : Nat) (hk : p.size + 2 < k) (hp : p.size ≤ 900000) : path_Parts.f k p = some ((parts p.data.toList).map mkB) := by
  unfold path_Parts.f
  rw [split_eq p 47 hp]
  simp only [Option.bind_some]
  have hlen : ((split1 47 p.data.toList).map mkB).length ≤ p.size + 1 := by
    rw [List.length_map, ← data_len]; exact split1_len 47 _
  have := parts_l0 ((split1 47 p.data.toList).map mkB) (by omega) _ k [] 0 (by omega) rfl (by omega) (by simp at hlen ⊢; omega)
  rw [show ((0 : Nat) : Int) = 0 from rfl] at this
  rw [this, List.drop_zero, keep_map]
  rfl

theorem rparts_l0 (xs : List ByteArray) (hx : xs.length ≤ 950000) (d : Nat) : ∀ (k : Nat) (acc : List ByteArray) (i : Nat), i ≤ xs.length → xs.length - i = d → d < k → acc.length + d ≤ 1000000 →
    messuageref04_Parts.l0 k xs acc i = some (acc ++ (xs.drop i).filter keepB) := by
  induction d with
  | zero =>
    intro k acc i hi hd hk ha
    obtain ⟨k, rfl⟩ : ∃ n, k = n + 1 := ⟨k - 1, by omega⟩
    simp only [messuageref04_Parts.l0]
    rw [if_neg (by omega), List.drop_eq_nil_of_le (by omega)]
    simp
  | succ d ih =>
    intro k acc i hi hd hk ha
    obtain ⟨k, rfl⟩ : ∃ n, k = n + 1 := ⟨k - 1, by omega⟩
    have hl : i < xs.length := by omega
    simp only [messuageref04_Parts.l0]
    rw [if_pos (by omega), if_pos (by omega), rdOf_get xs i hl, w1 i (by omega), List.drop_eq_getElem_cons hl, tl]
    generalize xs[i] = s
    by_cases h1 : s.data.toList = []
    · rw [if_pos h1, ih k acc (i + 1) (by omega) (by omega) (by omega) (by omega), List.filter_cons_of_neg (by simp [keepB, h1])]
    · rw [if_neg h1]
      by_cases h2 : s.data.toList = [46]
      · rw [if_pos h2, ih k acc (i + 1) (by omega) (by omega) (by omega) (by omega), List.filter_cons_of_neg (by simp [keepB, h2])]
      · rw [if_neg h2, if_pos (by omega), ih k _ (i + 1) (by omega) (by omega) (by omega) (by simp; omega), List.filter_cons_of_pos (keep_true h1 h2)]
        simp

theorem rparts_eq (p : ByteArray) (k : Nat) (hk : p.size + 2 < k) (hp : p.size ≤ 900000) : messuageref04_Parts.f k p = some ((parts p.data.toList).map mkB) := by
  unfold messuageref04_Parts.f
  have hs := rsplit_eq p 47 k hk hp
  rw [show (((47 : UInt8).toNat : Nat) : Int) = 47 from rfl] at hs
  rw [hs]
  simp only [Option.bind_some]
  have hlen : ((split1 47 p.data.toList).map mkB).length ≤ p.size + 1 := by
    rw [List.length_map, ← data_len]; exact split1_len 47 _
  have := rparts_l0 ((split1 47 p.data.toList).map mkB) (by omega) _ k [] 0 (by omega) rfl (by omega) (by simp at hlen ⊢; omega)
  rw [show ((0 : Nat) : Int) = 0 from rfl] at this
  rw [this, List.drop_zero, keep_map]
  rfl


/-! ### cleaning -/
def cleanR (l : Bs) : ByteArray × Int := if isGood l = true ∧ l.head? = some 47 then (mkB (render (clean l)), 0) else (mkB [], 40)

theorem wt_len (ns : List Bs) : ns.length ≤ wt ns := by
  induction ns with
  | nil => simp
  | cons n r ih => rw [wt_cons]; simp; omega
theorem render_lens (ns : List Bs) (h : (render ns).length ≤ 5000) : ns.length ≤ 5000 ∧ (Lib.join ns [47]).length ≤ 5000 ∧ (flat ns).length ≤ 5000 := by
  have hj := congrArg List.length (join_render ns)
  rw [List.length_cons] at hj
  have hf : (flat ns).length ≤ 5000 := by
    unfold render at h
    split at h
    · rename_i hn; rw [hn]; simp [flat]
    · exact h
  have := wt_len ns
  rw [flat_len] at hf
  exact ⟨by omega, by omega, by rw [flat_len]; exact hf⟩

theorem join_end (st : List ByteArray) (ns : List Bs) (hst : st.map (·.data.toList) = ns) (h : (render ns).length ≤ 5000) :
    ((strings_Join.f st (⟨#[47]⟩ : ByteArray)).bind fun t141 => (if 1 + t141.size ≤ 9223372036854775807 then (some ((⟨#[47]⟩ : ByteArray) ++ t141, (0 : Int))) else none)) = some (mkB (render ns), 0) := by
  obtain ⟨h1, h2, _⟩ := render_lens ns h
  have hl : st.length = ns.length := by rw [← hst, List.length_map]
  unfold strings_Join.f
  have e : (⟨#[47]⟩ : ByteArray).data.toList = [47] := rfl
  rw [hst, e, if_pos ⟨by omega, by omega⟩]
  simp only [Option.bind_some]
  have e2 : (⟨(Lib.join ns [47]).toArray⟩ : ByteArray).size = (Lib.join ns [47]).length := mkB_size _
  rw [e2, if_pos (by omega), ← join_render]
  congr 2

theorem clean_l0 (xs : List ByteArray) (hx : xs.length ≤ 5000) (d : Nat) : ∀ (k : Nat) (st : List ByteArray) (i : Nat), i ≤ xs.length → xs.length - i = d → d < k → st.length + d ≤ 1000000 →
    (render (((xs.drop i).map (·.data.toList)).foldl push (st.map (·.data.toList)))).length ≤ 5000 →
    path_Clean.l0 k st xs (xs.length : Int) i = some (mkB (render (((xs.drop i).map (·.data.toList)).foldl push (st.map (·.data.toList)))), 0) := by
  induction d with
  | zero =>
    intro k st i hi hd hk hs hr
    obtain ⟨k, rfl⟩ : ∃ n, k = n + 1 := ⟨k - 1, by omega⟩
    rw [List.drop_eq_nil_of_le (by omega)] at hr ⊢
    simp only [path_Clean.l0]
    rw [if_neg (by omega)]
    exact join_end st _ rfl hr
  | succ d ih =>
    intro k st i hi hd hk hs hr
    obtain ⟨k, rfl⟩ : ∃ n, k = n + 1 := ⟨k - 1, by omega⟩
    have hl : i < xs.length := by omega
    rw [List.drop_eq_getElem_cons hl, List.map_cons, List.foldl_cons] at hr ⊢
    simp only [path_Clean.l0]
    rw [if_pos (by omega), if_pos (by omega), if_pos (by omega), rdOf_get xs i hl, w1 i (by omega), tl]
    generalize xs[i] = s at hr ⊢
    by_cases h1 : s.data.toList = [46, 46]
    · rw [if_pos h1]
      have hp : push (st.map (·.data.toList)) s.data.toList = (st.map (·.data.toList)).dropLast := by unfold push; rw [if_pos h1]
      rw [hp] at hr ⊢
      by_cases h2 : (st.length : Int) > 0
      · have hw : wrap64 ((st.length : Int) - 1) = ((st.length - 1 : Nat) : Int) := by rw [IntWalk.wrap64_in _ (by omega)]; omega
        rw [if_pos h2, hw, if_pos (by omega), if_pos (by omega)]
        have e : (st.take ((st.length - 1 : Nat) : Int).toNat).map (·.data.toList) = (st.map (·.data.toList)).dropLast := by
          rw [List.dropLast_eq_take, List.length_map, ← List.map_take]
          rfl
        have := ih k (st.take ((st.length - 1 : Nat) : Int).toNat) (i + 1) (by omega) (by omega) (by omega) (by rw [List.length_take]; omega) (by rw [e]; exact hr)
        rw [e] at this
        exact this
      · rw [if_neg h2]
        have e : st = [] := List.length_eq_zero_iff.1 (by omega)
        subst e
        exact ih k [] (i + 1) (by omega) (by omega) (by omega) (by simp; omega) hr
    · rw [if_neg h1, if_pos (by omega)]
      have hp : push (st.map (·.data.toList)) s.data.toList = (st ++ [s]).map (·.data.toList) := by unfold push; rw [if_neg h1]; simp
      rw [hp] at hr ⊢
      exact ih k (st ++ [s]) (i + 1) (by omega) (by omega) (by omega) (by simp; omega) hr

theorem map_mkB (ls : List Bs) : (ls.map mkB).map (·.data.toList) = ls := by
  rw [List.map_map]
  have : ((fun x : ByteArray => x.data.toList) ∘ mkB) = id := by funext x; exact mkB_data x
  rw [this, List.map_id]
theorem head_cons {l : Bs} (h : l.head? = some 47) : ∃ r, l = 47 :: r := by
  cases l with
  | nil => simp at h
  | cons b r => simp at h; exact ⟨r, by rw [h]⟩
theorem bt_head (p : ByteArray) (h : 0 < p.size) : ((bt p 0 != 47) = true ↔ ¬ p.data.toList.head? = some 47) := by
  have hl : 0 < p.data.toList.length := by rw [data_len]; exact h
  have := bt_get p 0 hl
  rw [show ((0 : Nat) : Int) = 0 from rfl] at this
  rw [this, bne_iff_ne]
  have hh : p.data.toList.head? = some (p.data.toList[0]) := by rw [List.head?_eq_getElem?, List.getElem?_eq_getElem hl]
  rw [hh, Option.some.injEq]
  have := u8_eq (p.data.toList[0]) 47
  rw [show (((47 : UInt8).toNat : Nat) : Int) = 47 from rfl] at this
  exact not_congr this

theorem parts_len (l : Bs) : (parts l).length ≤ l.length + 1 := Nat.le_trans (List.length_filter_le _ _) (split1_len 47 l)

theorem clean_eq (p : ByteArray) (k : Nat) (hk : p.size + 4 < k) (hp : p.size ≤ 900000) : path_Clean.f k p = some (cleanR p.data.toList) := by
  unfold path_Clean.f cleanR
  rw [good_eq p k (by omega) hp]
  simp only [Option.bind_some]
  obtain ⟨k, rfl⟩ : ∃ n, k = n + 1 := ⟨k - 1, by omega⟩
  have bad : path_Clean.j0 (k + 1) p true = some (mkB [], 40) := by simp only [path_Clean.j0]; rfl
  by_cases hg : isGood p.data.toList = true
  · rw [if_pos hg, tl]
    by_cases h0 : p.data.toList = []
    · rw [if_pos h0, bad, h0, if_neg (by simp)]
    · have hz : 0 < p.size := by rw [← data_len]; exact List.length_pos_iff.2 h0
      rw [if_neg h0, if_pos (by omega)]
      by_cases hh : p.data.toList.head? = some 47
      · rw [if_pos ⟨hg, hh⟩]
        have e : (bt p 0 != 47) = false := by
          rw [Bool.eq_false_iff]
          intro h
          exact (bt_head p hz).1 h hh
        rw [e]
        simp only [path_Clean.j0, Bool.false_eq_true, if_false]
        rw [parts_eq p k (by omega) hp]
        simp only [Option.bind_some]
        obtain ⟨r, hr⟩ := head_cons hh
        have hsz : p.size ≤ 256 := by rw [← data_len]; exact ((isGood_iff _).1 hg).1
        have hpl := parts_len p.data.toList
        rw [data_len] at hpl
        have hrl : (render (clean p.data.toList)).length ≤ 5000 := by
          have h1 := render_len r
          have h2 := data_len p
          rw [hr] at h2 ⊢
          simp at h2
          omega
        have := clean_l0 ((parts p.data.toList).map mkB) (by simp; omega) _ k [] 0 (by omega) rfl (by simp; omega) (by simp; omega) (by rw [List.drop_zero, map_mkB]; exact hrl)
        rw [show ((0 : Nat) : Int) = 0 from rfl, List.drop_zero, map_mkB] at this
        exact this
      · rw [if_neg (fun h => hh h.2), (bt_head p hz).2 hh, bad]
  · rw [if_neg hg, bad, if_neg (fun h => hg h.1)]

theorem back_cons (n : Bs) (r : List Bs) (s : Bs) (out : Nat) : back (n :: r) s out = if n = [46, 46] then back r s (out + 1) else if 0 < out then back r s (out - 1) else back r (47 :: n ++ s) out := rfl
theorem rclean_l0 (ns : List Bs) (hx : ns.length ≤ 5000) (d : Nat) : ∀ (k : Nat) (s : Bs) (out : Nat), d ≤ ns.length → d < k → out + d ≤ 10000 → s.length + wt (ns.take d) ≤ 10000 →
    messuageref04_Clean.l0 k (ns.map mkB) (mkB s) (out : Int) ((d : Int) - 1) = some (mkB (if back (ns.take d).reverse s out = [] then [47] else back (ns.take d).reverse s out), 0) := by
  induction d with
  | zero =>
    intro k s out hd hk ho hs
    obtain ⟨k, rfl⟩ : ∃ n, k = n + 1 := ⟨k - 1, by omega⟩
    simp only [messuageref04_Clean.l0]
    rw [if_neg (by omega), mt]
    show _ = some (mkB (if back [] s out = [] then [47] else back [] s out), 0)
    unfold back
    split <;> rfl
  | succ d ih =>
    intro k s out hd hk ho hs
    obtain ⟨k, rfl⟩ : ∃ n, k = n + 1 := ⟨k - 1, by omega⟩
    have hl : d < ns.length := by omega
    have e1 : (((d + 1 : Nat) : Int) - 1) = (d : Int) := by omega
    have e2 : wrap64 ((d : Int) - 1) = (d : Int) - 1 := IntWalk.wrap64_in _ (by omega)
    have e3 : (ns.take (d + 1)).reverse = ns[d] :: (ns.take d).reverse := by
      rw [List.take_succ_eq_append_getElem hl, List.reverse_append]; rfl
    have e4 : wt (ns.take (d + 1)) = wt (ns.take d) + (ns[d].length + 1) := by
      rw [List.take_succ_eq_append_getElem hl, wt_append, wt_cons]; simp [wt]
    rw [e1, e3]
    rw [e4] at hs
    simp only [messuageref04_Clean.l0]
    rw [if_pos (by omega), if_pos (by omega), if_pos (by rw [List.length_map]; omega), rdOf_get (ns.map mkB) d (by rw [List.length_map]; omega), List.getElem_map, mt, e2]
    generalize ns[d] = n at hs ⊢
    rw [back_cons]
    by_cases h1 : n = [46, 46]
    · have e5 : wrap64 ((out : Int) + 1) = ((out + 1 : Nat) : Int) := w1 out (by omega)
      have a1 : out + 1 + d ≤ 10000 := by clear h1 e5; omega
      have a2 : s.length + wt (ns.take d) ≤ 10000 := by clear h1 e5; omega
      rw [if_pos h1, if_pos h1, e5]
      exact ih k s (out + 1) (by omega) (by omega) a1 a2
    · rw [if_neg h1, if_neg h1]
      by_cases h2 : 0 < out
      · have e5 : wrap64 ((out : Int) - 1) = ((out - 1 : Nat) : Int) := by rw [IntWalk.wrap64_in _ (by omega)]; omega
        rw [if_pos (by omega), if_pos h2, e5]
        exact ih k s (out - 1) (by omega) (by omega) (by omega) (by omega)
      · have e6 : ((⟨#[47]⟩ : ByteArray) ++ mkB n) = mkB (47 :: n) := by
          apply bext
          rw [ByteArray.data_append, mkB_data, Array.toList_append, mkB_data]
          rfl
        have e7 : mkB (47 :: n) ++ mkB s = mkB (47 :: n ++ s) := by
          apply bext
          rw [ByteArray.data_append, mkB_data, Array.toList_append, mkB_data, mkB_data]
        rw [if_neg (by omega), if_neg h2, mkB_size, if_pos (by omega), e6, mkB_size, mkB_size, if_pos (by simp; omega), e7]
        exact ih k (47 :: n ++ s) out (by omega) (by omega) (by omega) (by simp; omega)

theorem rclean_eq (p : ByteArray) (k : Nat) (hk : p.size + 5 < k) (hp : p.size ≤ 900000) : messuageref04_Clean.f k p = some (cleanR p.data.toList) := by
  unfold messuageref04_Clean.f cleanR
  rw [rgood_eq p k (by omega) hp]
  simp only [Option.bind_some]
  obtain ⟨k, rfl⟩ : ∃ n, k = n + 1 := ⟨k - 1, by omega⟩
  have bad : messuageref04_Clean.j0 (k + 1) p true = some (mkB [], 40) := by simp only [messuageref04_Clean.j0]; rfl
  by_cases hg : isGood p.data.toList = true
  · rw [if_pos hg]
    by_cases h0 : p.size = 0
    · have h0' : p.data.toList = [] := List.length_eq_zero_iff.1 (by rw [data_len]; exact h0)
      rw [if_pos (by omega), bad, h0', if_neg (by simp)]
    · rw [if_neg (by omega), if_pos (by omega)]
      by_cases hh : p.data.toList.head? = some 47
      · rw [if_pos ⟨hg, hh⟩]
        have e : (bt p 0 != 47) = false := by
          rw [Bool.eq_false_iff]
          intro h
          exact (bt_head p (by omega)).1 h hh
        rw [e]
        simp only [messuageref04_Clean.j0, Bool.false_eq_true, if_false]
        rw [rparts_eq p k (by omega) hp]
        simp only [Option.bind_some]
        have hsz : p.size ≤ 256 := by rw [← data_len]; exact ((isGood_iff _).1 hg).1
        have hpl := parts_len p.data.toList
        rw [data_len] at hpl
        have hwt : wt (parts p.data.toList) ≤ 257 := by
          have h1 : (parts p.data.toList).Sublist (split1 47 p.data.toList) := List.filter_sublist
          have h2 := wt_sublist h1
          rw [split1_wt, data_len] at h2
          omega
        have hw : wrap64 ((((parts p.data.toList).map mkB).length : Int) - 1) = ((parts p.data.toList).length : Int) - 1 := by
          rw [List.length_map]; exact IntWalk.wrap64_in _ (by omega)
        rw [hw]
        have := rclean_l0 (parts p.data.toList) (by omega) (parts p.data.toList).length k [] 0 (Nat.le_refl _) (by omega) (by omega) (by rw [List.take_length]; simp; omega)
        rw [List.take_length, back_clean] at this
        exact this
      · rw [if_neg (fun h => hh h.2), (bt_head p (by omega)).2 hh, bad]
  · rw [if_neg hg, bad, if_neg (fun h => hg h.1)]

/-! ### the last name, the folder above -/
theorem lastI_snoc (x : Bs) (b : UInt8) : lastI (x ++ [b]) = if b = 47 then some x.length else lastI x := by
  by_cases h : b = 47
  · subst h
    rw [if_pos rfl]
    exact lastI_some (y := []) (by simp)
  · rw [if_neg h]
    have hb : ¬ (47 : UInt8) = b := fun e => h e.symm
    rcases last_cases x with hx | ⟨u, v, rfl, hv⟩
    · rw [lastI_none hx, lastI_none (by simp [hx, hb])]
    · rw [lastI_some hv, List.append_assoc, List.cons_append, lastI_some (by simp [hv, hb])]
theorem lastI_lt {l : Bs} {i : Nat} (h : lastI l = some i) : i < l.length := by
  rcases last_cases l with hx | ⟨u, v, rfl, hv⟩
  · rw [lastI_none hx] at h; cases h
  · rw [lastI_some hv] at h
    obtain rfl := Option.some.inj h
    simp
def lastZ (l : Bs) : Int := match lastI l with | some i => (i : Int) | none => -1

theorem lastByte_l0 (p : ByteArray) (hp : p.size ≤ 900000) (n : Nat) : ∀ (k : Nat), n ≤ p.size → n < k → bytealg_LastIndexByteString.l0 k p 47 ((n : Int) - 1) = some (lastZ (p.data.toList.take n)) := by
  induction n with
  | zero =>
    intro k hn hk
    obtain ⟨k, rfl⟩ : ∃ n, k = n + 1 := ⟨k - 1, by omega⟩
    simp only [bytealg_LastIndexByteString.l0]
    rw [if_neg (by omega)]
    rfl
  | succ n ih =>
    intro k hn hk
    obtain ⟨k, rfl⟩ : ∃ n, k = n + 1 := ⟨k - 1, by omega⟩
    have hl : n < p.data.toList.length := by rw [data_len]; omega
    have e1 : (((n + 1 : Nat) : Int) - 1) = (n : Int) := by omega
    have e2 : wrap64 ((n : Int) - 1) = (n : Int) - 1 := IntWalk.wrap64_in _ (by omega)
    have h47 := u8_eq (p.data.toList[n]) 47
    rw [show (((47 : UInt8).toNat : Nat) : Int) = 47 from rfl] at h47
    rw [e1, List.take_succ_eq_append_getElem hl]
    unfold lastZ
    rw [lastI_snoc]
    simp only [bytealg_LastIndexByteString.l0]
    rw [if_pos (by omega), if_pos (by omega), if_pos (by omega), bt_get p n hl, e2, ih k (by omega) (by omega)]
    by_cases hb : p.data.toList[n] = 47
    · rw [if_pos (h47.2 hb), if_pos hb, List.length_take, Nat.min_eq_left (Nat.le_of_lt hl)]
    · rw [if_neg (fun h => hb (h47.1 h)), if_neg hb]
      rfl
theorem lastByte_eq (p : ByteArray) (k : Nat) (hk : p.size < k) (hp : p.size ≤ 900000) : strings_LastIndexByte.f k p 47 = some (lastZ p.data.toList) := by
  unfold strings_LastIndexByte.f bytealg_LastIndexByteString.f
  rw [show wrap64 ((p.size : Int) - 1) = (p.size : Int) - 1 from IntWalk.wrap64_in _ (by omega), lastByte_l0 p hp p.size k (Nat.le_refl _) hk, List.take_of_length_le (by rw [data_len]; omega)]
  rfl

theorem rlast_l0 (p : ByteArray) (hp : p.size ≤ 900000) (d : Nat) : ∀ (k i : Nat) (at_ : Int), i ≤ p.size → p.size - i = d → d < k →
    messuageref04_last.l0 k p at_ i = some (match lastI (p.data.toList.drop i) with | some j => ((i + j : Nat) : Int) | none => at_) := by
  induction d with
  | zero =>
    intro k i at_ hi hd hk
    obtain ⟨k, rfl⟩ : ∃ n, k = n + 1 := ⟨k - 1, by omega⟩
    simp only [messuageref04_last.l0]
    rw [if_neg (by omega), List.drop_eq_nil_of_le (by rw [data_len]; omega)]
    rfl
  | succ d ih =>
    intro k i at_ hi hd hk
    obtain ⟨k, rfl⟩ : ∃ n, k = n + 1 := ⟨k - 1, by omega⟩
    have hl : i < p.data.toList.length := by rw [data_len]; omega
    have h47 := u8_eq (p.data.toList[i]) 47
    rw [show (((47 : UInt8).toNat : Nat) : Int) = 47 from rfl] at h47
    simp only [messuageref04_last.l0]
    rw [if_pos (by omega), if_pos (by omega), bt_get p i hl, w1 i (by omega), ih k (i + 1) _ (by omega) (by omega) (by omega), ih k (i + 1) _ (by omega) (by omega) (by omega), List.drop_eq_getElem_cons hl, lastI]
    cases hq : lastI (p.data.toList.drop (i + 1)) with
    | some j => simp only [ite_self]; congr 1; omega
    | none =>
      by_cases hb : p.data.toList[i] = 47
      · rw [if_pos (h47.2 hb), if_pos hb]; rfl
      · rw [if_neg (fun h => hb (h47.1 h)), if_neg hb]
theorem rlast_eq (p : ByteArray) (k : Nat) (hk : p.size < k) (hp : p.size ≤ 900000) : messuageref04_last.f k p = some (lastZ p.data.toList) := by
  unfold messuageref04_last.f
  have := rlast_l0 p hp p.size k 0 (-1) (by omega) (by omega) hk
  rw [show ((0 : Nat) : Int) = 0 from rfl] at this
  rw [this, List.drop_zero]
  unfold lastZ
  cases lastI p.data.toList with
  | some j => simp
  | none => rfl

theorem lastZ_cases (l : Bs) : (lastI l = none ∧ lastZ l = -1) ∨ ∃ i : Nat, lastI l = some i ∧ lastZ l = i ∧ i < l.length := by
  unfold lastZ
  cases h : lastI l with
  | none => exact .inl ⟨rfl, rfl⟩
  | some i => exact .inr ⟨i, rfl, rfl, lastI_lt h⟩

theorem base_of (p : ByteArray) (hp : p.size ≤ 900000) : (if 0 ≤ (wrap64 (lastZ p.data.toList + 1)) then (if (wrap64 (lastZ p.data.toList + 1)) ≤ (p.size : Int) then (some (p.extract ((wrap64 (lastZ p.data.toList + 1)) : Int).toNat p.size)) else (none)) else (none)) = some (mkB (base p.data.toList)) := by
  unfold base
  rcases lastZ_cases p.data.toList with ⟨h1, h2⟩ | ⟨i, h1, h2, h3⟩
  · rw [h2, h1, show wrap64 (-1 + 1) = 0 from by unfold wrap64; omega, if_pos (by omega), if_pos (by omega)]
    congr 1
    exact bext (by rw [mkB_data, show (0 : Int).toNat = 0 from rfl, Lib.extract_to_end, List.drop_zero])
  · rw [data_len] at h3
    rw [h2, h1, w1 i (by omega), if_pos (by omega), if_pos (by omega)]
    congr 1
    exact bext (by rw [mkB_data, show (((i + 1 : Nat) : Int)).toNat = i + 1 from rfl, Lib.extract_to_end])
theorem base_eq (p : ByteArray) (k : Nat) (hk : p.size < k) (hp : p.size ≤ 900000) : path_Base.f k p = some (mkB (base p.data.toList)) := by
  unfold path_Base.f
  rw [lastByte_eq p k hk hp]
  exact base_of p hp
theorem rbase_eq (p : ByteArray) (k : Nat) (hk : p.size < k) (hp : p.size ≤ 900000) : messuageref04_Base.f k p = some (mkB (base p.data.toList)) := by
  unfold messuageref04_Base.f
  rw [rlast_eq p k hk hp]
  exact base_of p hp
theorem up_of (p : ByteArray) (i : Nat) (h1 : lastI p.data.toList = some i) (h0 : i ≠ 0) : mkB (PathL.up p.data.toList) = p.extract 0 i := by
  unfold PathL.up
  rw [h1]
  simp only [if_neg h0]
  exact bext (by rw [mkB_data, Lib.extract_data]; simp)
theorem up_root (l : Bs) (h : lastI l = none ∨ lastI l = some 0) : PathL.up l = [47] := by
  unfold PathL.up
  rcases h with h | h <;> rw [h] <;> rfl
theorem up_eq (p : ByteArray) (k : Nat) (hk : p.size < k) (hp : p.size ≤ 900000) : path_Up.f k p = some (mkB (PathL.up p.data.toList)) := by
  unfold path_Up.f
  rw [lastByte_eq p k hk hp]
  simp only [Option.bind_some]
  rcases lastZ_cases p.data.toList with ⟨h1, h2⟩ | ⟨i, h1, h2, h3⟩
  · rw [h2, if_pos (by omega), up_root _ (.inl h1)]; rfl
  · rw [data_len] at h3
    by_cases h0 : i = 0
    · subst h0; rw [h2, if_pos (by omega), up_root _ (.inr h1)]; rfl
    · rw [h2, if_neg (by omega), if_pos (by omega), if_pos (by omega), up_of p i h1 h0]; rfl
theorem rup_eq (p : ByteArray) (k : Nat) (hk : p.size < k) (hp : p.size ≤ 900000) : messuageref04_Up.f k p = some (mkB (PathL.up p.data.toList)) := by
  unfold messuageref04_Up.f
  rw [rlast_eq p k hk hp]
  simp only [Option.bind_some]
  rcases lastZ_cases p.data.toList with ⟨h1, h2⟩ | ⟨i, h1, h2, h3⟩
  · rw [h2, if_pos (by omega), up_root _ (.inl h1)]; rfl
  · rw [data_len] at h3
    by_cases h0 : i = 0
    · subst h0; rw [h2, if_pos (by omega), up_root _ (.inr h1)]; rfl
    · rw [h2, if_neg (by omega), if_pos (by omega), if_pos (by omega), up_of p i h1 h0]; rfl

/-! ### what is below what -/
theorem take_prefix (a b : Bs) : (a.take b.length == b) = b.isPrefixOf a := by
  rw [Bool.eq_iff_iff, beq_iff_eq, List.isPrefixOf_iff_prefix, List.prefix_iff_eq_take]
  exact ⟨fun e => e.symm, fun e => e.symm⟩
theorem prefix_short (a b : Bs) (h : ¬ b.length ≤ a.length) : b.isPrefixOf a = false := by
  rw [Bool.eq_false_iff]
  intro e
  rw [List.isPrefixOf_iff_prefix] at e
  exact h e.length_le
theorem has_of (a b : ByteArray) : (if (a.size : Int) ≥ (b.size : Int) then (if 0 ≤ (b.size : Int) then (if (b.size : Int) ≤ (a.size : Int) then (some ((a.extract 0 ((b.size : Int) : Int).toNat).toList == b.toList)) else (none)) else (none)) else (some false)) = some (b.data.toList.isPrefixOf a.data.toList) := by
  by_cases h : (a.size : Int) ≥ (b.size : Int)
  · rw [if_pos h, if_pos (by omega), if_pos (by omega), tl, tl, Lib.extract_data, List.drop_zero, Nat.sub_zero, show ((b.size : Nat) : Int).toNat = b.size from rfl, ← data_len b, take_prefix]
  · rw [if_neg h, prefix_short _ _ (by rw [data_len, data_len]; omega)]
theorem has_eq (a b : ByteArray) : strings_HasPrefix.f a b = some (b.data.toList.isPrefixOf a.data.toList) := by
  unfold strings_HasPrefix.f stringslite_HasPrefix.f
  rw [has_of]
  rfl
theorem begins_eq (a b : ByteArray) : messuageref04_begins.f a b = some (b.data.toList.isPrefixOf a.data.toList) := by
  unfold messuageref04_begins.f
  exact has_of a b
theorem slash_data (d : ByteArray) : (d ++ (⟨#[47]⟩ : ByteArray)).data.toList = d.data.toList ++ [47] := by
  rw [ByteArray.data_append]; simp
theorem under_eq (p d : ByteArray) (hd : d.size ≤ 900000) : path_Under.f p d = some (under p.data.toList d.data.toList) := by
  unfold path_Under.f under
  rw [tl, tl, has_eq, has_eq, slash_data]
  by_cases h : d.data.toList = [47]
  · rw [if_pos h, if_pos h]; rfl
  · rw [if_neg h, if_neg h]
    by_cases h2 : p.data.toList = d.data.toList
    · rw [if_pos h2, decide_eq_true h2]; rfl
    · rw [if_neg h2, decide_eq_false h2, if_pos (by omega)]; rfl
theorem runder_eq (p d : ByteArray) (hd : d.size ≤ 900000) : messuageref04_Under.f p d = some (under p.data.toList d.data.toList) := by
  unfold messuageref04_Under.f under
  rw [tl, tl, begins_eq, begins_eq, slash_data]
  by_cases h : d.data.toList = [47]
  · rw [if_pos h, if_pos h]; rfl
  · rw [if_neg h, if_neg h]
    by_cases h2 : p.data.toList = d.data.toList
    · rw [if_pos h2, decide_eq_true h2]; rfl
    · rw [if_neg h2, decide_eq_false h2, if_pos (by omega)]; rfl
theorem child_eq (p d : ByteArray) (k : Nat) (hk : p.size < k) (hp : p.size ≤ 900000) : path_Child.f k p d = some (child p.data.toList d.data.toList) := by
  unfold path_Child.f child
  rw [up_eq p k hk hp, tl]
  simp only [Option.bind_some]
  rw [mt, tl]
  by_cases h1 : p.data.toList = [47]
  · rw [if_pos h1, h1]; rfl
  · rw [if_neg h1, beq_eq_false_iff_ne.2 h1]
    by_cases h2 : p.data.toList = []
    · rw [if_pos h2, h2]; rfl
    · rw [if_neg h2, beq_eq_false_iff_ne.2 h2]; rfl
theorem rchild_eq (p d : ByteArray) (k : Nat) (hk : p.size < k) (hp : p.size ≤ 900000) : messuageref04_Child.f k p d = some (child p.data.toList d.data.toList) := by
  unfold messuageref04_Child.f child
  rw [rup_eq p k hk hp, tl]
  simp only [Option.bind_some]
  rw [mt, tl]
  by_cases h1 : p.data.toList = [47]
  · rw [h1]; rfl
  · rw [if_neg h1, beq_eq_false_iff_ne.2 h1]
    by_cases h2 : p.data.toList = []
    · rw [if_pos h2, h2]; rfl
    · rw [if_neg h2, beq_eq_false_iff_ne.2 h2]; rfl

/-! ### archives -/
def arch (l : Bs) : ByteArray × ByteArray × Bool := (mkB (Lib.cut l [33, 47]).1, mkB (Lib.cut l [33, 47]).2.1, (Lib.cut l [33, 47]).2.2)
theorem arch_eq (p : ByteArray) (hp : p.size ≤ 900000) : path_Archive.f p = some (arch p.data.toList) := by
  unfold path_Archive.f strings_Cut.f
  rw [if_pos (by omega)]
  rfl
def archAt (l : Bs) (i : Nat) : ByteArray × ByteArray × Bool :=
  if 0 ≤ Lib.index (l.drop i) [33, 47] then (mkB (l.take (i + (Lib.index (l.drop i) [33, 47]).toNat)), mkB (l.drop (i + (Lib.index (l.drop i) [33, 47]).toNat + 2)), true) else (mkB l, mkB [], false)
theorem index_short (l : Bs) (h : l.length ≤ 1) : Lib.index l [33, 47] = -1 := by
  match l, h with
  | [], _ => rfl
  | [b], _ => simp [Lib.index]
  | _ :: _ :: _, h => simp at h
theorem pre2 (b c : UInt8) (l : Bs) : [33, 47].isPrefixOf (b :: c :: l) = (b == 33 && c == 47) := by
  show ((33 == b) && ((47 == c) && List.isPrefixOf [] l)) = _
  rw [show List.isPrefixOf [] l = true from by cases l <;> rfl, Bool.and_true, Bool.beq_comm, Bool.beq_comm (a := (47 : UInt8))]
theorem archAt_step (l : Bs) (i : Nat) (hl : i < l.length) (h : [33, 47].isPrefixOf (l.drop i) = false) : archAt l i = archAt l (i + 1) := by
  have hx := Lib.index_ge (l.drop (i + 1)) [33, 47]
  unfold archAt
  rw [List.drop_eq_getElem_cons hl] at h ⊢
  have e : Lib.index (l[i] :: l.drop (i + 1)) [33, 47] = if Lib.index (l.drop (i + 1)) [33, 47] == -1 then -1 else Lib.index (l.drop (i + 1)) [33, 47] + 1 := by
    rw [Lib.index, h]; rfl
  rw [e]
  by_cases hm : Lib.index (l.drop (i + 1)) [33, 47] = -1
  · rw [hm]; rfl
  · rw [beq_eq_false_iff_ne.2 hm]
    simp only [Bool.false_eq_true, if_false]
    rw [if_pos (by omega), if_pos (by omega)]
    have e3 : i + (Lib.index (l.drop (i + 1)) [33, 47] + 1).toNat = i + 1 + (Lib.index (l.drop (i + 1)) [33, 47]).toNat := by omega
    rw [e3]
theorem rarch_l0 (p : ByteArray) (hp : p.size ≤ 900000) (d : Nat) : ∀ (k i : Nat), i ≤ p.size → p.size - i = d → d < k → messuageref04_Archive.l0 k p i = some (archAt p.data.toList i) := by
  induction d with
  | zero =>
    intro k i hi hd hk
    obtain ⟨k, rfl⟩ : ∃ n, k = n + 1 := ⟨k - 1, by omega⟩
    simp only [messuageref04_Archive.l0]
    rw [w1 i (by omega), if_neg (by omega)]
    unfold archAt
    rw [index_short _ (by rw [List.length_drop, data_len]; omega), if_neg (by omega), mkB_of]
    rfl
  | succ d ih =>
    intro k i hi hd hk
    obtain ⟨k, rfl⟩ : ∃ n, k = n + 1 := ⟨k - 1, by omega⟩
    have hl : i < p.data.toList.length := by rw [data_len]; omega
    simp only [messuageref04_Archive.l0]
    rw [w1 i (by omega)]
    by_cases hs : i + 1 < p.size
    · have hl2 : i + 1 < p.data.toList.length := by rw [data_len]; omega
      have e2 : wrap64 ((i : Int) + 2) = ((i + 2 : Nat) : Int) := by rw [IntWalk.wrap64_in _ (by omega)]; rfl
      have hpre : [33, 47].isPrefixOf (p.data.toList.drop i) = (p.data.toList[i] == 33 && p.data.toList[i + 1] == 47) := by
        rw [List.drop_eq_getElem_cons hl, List.drop_eq_getElem_cons hl2, pre2]
      have h33 := u8_eq (p.data.toList[i]) 33
      have h47 := u8_eq (p.data.toList[i + 1]) 47
      rw [show (((33 : UInt8).toNat : Nat) : Int) = 33 from rfl] at h33
      rw [show (((47 : UInt8).toNat : Nat) : Int) = 47 from rfl] at h47
      rw [if_pos (by omega), if_pos (by omega), if_pos (by omega), bt_get p i hl, bt_get p (i + 1) hl2, e2, ih k (i + 1) (by omega) (by omega) (by omega)]
      by_cases h1 : p.data.toList[i] = 33
      · rw [if_pos (h33.2 h1), if_pos (by omega)]
        by_cases h2 : p.data.toList[i + 1] = 47
        · rw [if_pos (h47.2 h2), if_pos (by omega), if_pos (by omega), if_pos (by omega)]
          congr 1
          unfold archAt
          have e3 : Lib.index (p.data.toList.drop i) [33, 47] = 0 := by
            rw [List.drop_eq_getElem_cons hl] at hpre ⊢
            rw [Lib.index, hpre, h1, h2]
            rfl
          rw [e3, if_pos (by omega), extract_l, extract_l, List.drop_zero, Nat.sub_zero]
          have e4 : ((i + 2 : Nat) : Int).toNat = i + 2 := rfl
          have e5 : (p.data.toList.drop (i + 2)).take (p.size - (i + 2)) = p.data.toList.drop (i + 2) := List.take_of_length_le (by rw [List.length_drop, data_len]; omega)
          rw [e4, show (i : Int).toNat = i from rfl, show (0 : Int).toNat = 0 from rfl, Nat.add_zero, e5]
          rfl
        · rw [if_neg (fun h => h2 (h47.1 h)), archAt_step _ _ hl (by rw [hpre, beq_eq_false_iff_ne.2 h2, Bool.and_false])]
      · rw [if_neg (fun h => h1 (h33.1 h)), archAt_step _ _ hl (by rw [hpre, beq_eq_false_iff_ne.2 h1, Bool.false_and])]
    · rw [if_neg (by omega)]
      unfold archAt
      rw [index_short _ (by rw [List.length_drop, data_len]; omega), if_neg (by omega), mkB_of]
      rfl
theorem rarch_eq (p : ByteArray) (k : Nat) (hk : p.size < k) (hp : p.size ≤ 900000) : messuageref04_Archive.f k p = some (arch p.data.toList) := by
  unfold messuageref04_Archive.f
  have := rarch_l0 p hp p.size k 0 (by omega) (by omega) hk
  rw [show ((0 : Nat) : Int) = 0 from rfl] at this
  rw [this]
  congr 1
  unfold archAt arch Lib.cut
  rw [List.drop_zero]
  by_cases h : 0 ≤ Lib.index p.data.toList [33, 47]
  · rw [if_pos h, if_pos h, Nat.zero_add]; rfl
  · rw [if_neg h, if_neg h]

/-! ### lists -/
def keepE (s : ByteArray) : Bool := !(s.data.toList == [])
def listL (l : Bs) : List Bs := (split1 58 l).filter fun s => !(s == [])
theorem keepE_true {s : ByteArray} (h1 : ¬ s.data.toList = []) : keepE s = true := by
  unfold keepE
  rw [beq_eq_false_iff_ne.2 h1]
  rfl
theorem keepE_map (ls : List Bs) : (ls.map mkB).filter keepE = (ls.filter fun s => !(s == [])).map mkB := by
  rw [List.filter_map]
  rfl
theorem list_l0 (xs : List ByteArray) (hx : xs.length ≤ 950000) (d : Nat) : ∀ (k : Nat) (acc : List ByteArray) (i : Nat), i ≤ xs.length → xs.length - i = d → d < k → acc.length + d ≤ 1000000 →
    path_List.l0 k acc xs (xs.length : Int) i = some (acc ++ (xs.drop i).filter keepE) := by
  induction d with
  | zero =>
    intro k acc i hi hd hk ha
    obtain ⟨k, rfl⟩ : ∃ n, k = n + 1 := ⟨k - 1, by omega⟩
    simp only [path_List.l0]
    rw [if_neg (by omega), List.drop_eq_nil_of_le (by omega)]
    simp
  | succ d ih =>
    intro k acc i hi hd hk ha
    obtain ⟨k, rfl⟩ : ∃ n, k = n + 1 := ⟨k - 1, by omega⟩
    have hl : i < xs.length := by omega
    simp only [path_List.l0]
    rw [if_pos (by omega), if_pos (by omega), if_pos (by omega), rdOf_get xs i hl, w1 i (by omega), List.drop_eq_getElem_cons hl, tl]
    generalize xs[i] = s
    by_cases h1 : s.data.toList = []
    · rw [if_pos h1, ih k acc (i + 1) (by omega) (by omega) (by omega) (by omega), List.filter_cons_of_neg (by simp [keepE, h1])]
    · rw [if_neg h1, if_pos (by omega), ih k _ (i + 1) (by omega) (by omega) (by omega) (by simp; omega), List.filter_cons_of_pos (keepE_true h1)]
      simp
theorem rlist_l0 (xs : List ByteArray) (hx : xs.length ≤ 950000) (d : Nat) : ∀ (k : Nat) (acc : List ByteArray) (i : Nat), i ≤ xs.length → xs.length - i = d → d < k → acc.length + d ≤ 1000000 →
    messuageref04_List.l0 k xs acc i = some (acc ++ (xs.drop i).filter keepE) := by
  induction d with
  | zero =>
    intro k acc i hi hd hk ha
    obtain ⟨k, rfl⟩ : ∃ n, k = n + 1 := ⟨k - 1, by omega⟩
    simp only [messuageref04_List.l0]
    rw [if_neg (by omega), List.drop_eq_nil_of_le (by omega)]
    simp
  | succ d ih =>
    intro k acc i hi hd hk ha
    obtain ⟨k, rfl⟩ : ∃ n, k = n + 1 := ⟨k - 1, by omega⟩
    have hl : i < xs.length := by omega
    simp only [messuageref04_List.l0]
    rw [if_pos (by omega), if_pos (by omega), rdOf_get xs i hl, w1 i (by omega), List.drop_eq_getElem_cons hl, tl]
    generalize xs[i] = s
    by_cases h1 : s.data.toList = []
    · rw [if_pos h1, ih k acc (i + 1) (by omega) (by omega) (by omega) (by omega), List.filter_cons_of_neg (by simp [keepE, h1])]
    · rw [if_neg h1, if_pos (by omega), ih k _ (i + 1) (by omega) (by omega) (by omega) (by simp; omega), List.filter_cons_of_pos (keepE_true h1)]
      simp
theorem list_eq (p : ByteArray) (k : Nat) (hk : p.size + 2 < k) (hp : p.size ≤ 900000) : path_List.f k p = some ((listL p.data.toList).map mkB) := by
  unfold path_List.f
  rw [split_eq p 58 hp]
  simp only [Option.bind_some]
  have hlen : ((split1 58 p.data.toList).map mkB).length ≤ p.size + 1 := by
    rw [List.length_map, ← data_len]; exact split1_len 58 _
  have := list_l0 ((split1 58 p.data.toList).map mkB) (by omega) _ k [] 0 (by omega) rfl (by omega) (by simp at hlen ⊢; omega)
  rw [show ((0 : Nat) : Int) = 0 from rfl] at this
  rw [this, List.drop_zero, keepE_map]
  rfl
theorem rlist_eq (p : ByteArray) (k : Nat) (hk : p.size + 2 < k) (hp : p.size ≤ 900000) : messuageref04_List.f k p = some ((listL p.data.toList).map mkB) := by
  unfold messuageref04_List.f
  have hs := rsplit_eq p 58 k hk hp
  rw [show (((58 : UInt8).toNat : Nat) : Int) = 58 from rfl] at hs
  rw [hs]
  simp only [Option.bind_some]
  have hlen : ((split1 58 p.data.toList).map mkB).length ≤ p.size + 1 := by
    rw [List.length_map, ← data_len]; exact split1_len 58 _
  have := rlist_l0 ((split1 58 p.data.toList).map mkB) (by omega) _ k [] 0 (by omega) rfl (by omega) (by simp at hlen ⊢; omega)
  rw [show ((0 : Nat) : Int) = 0 from rfl] at this
  rw [this, List.drop_zero, keepE_map]
  rfl
theorem same_l0 (xs : List ByteArray) (hx : xs.length ≤ 950000) (d : Nat) : ∀ (k i : Nat), i ≤ xs.length → xs.length - i = d → d < k → messuageref04_Same.l0 k xs xs i = some true := by
  induction d with
  | zero =>
    intro k i hi hd hk
    obtain ⟨k, rfl⟩ : ∃ n, k = n + 1 := ⟨k - 1, by omega⟩
    simp only [messuageref04_Same.l0]
    rw [if_neg (by omega)]
  | succ d ih =>
    intro k i hi hd hk
    obtain ⟨k, rfl⟩ : ∃ n, k = n + 1 := ⟨k - 1, by omega⟩
    simp only [messuageref04_Same.l0]
    rw [if_pos (by omega), if_pos (by omega), if_pos (by omega), w1 i (by omega), ih k (i + 1) (by omega) (by omega) (by omega)]
    simp
theorem same_refl (xs : List ByteArray) (k : Nat) (hx : xs.length ≤ 950000) (hk : xs.length < k) : messuageref04_Same.f k xs xs = some true := by
  unfold messuageref04_Same.f
  rw [if_pos rfl]
  exact same_l0 xs hx xs.length k 0 (by omega) (by omega) hk

/-! ### a whole path, and the examples -/
theorem isClean_eq (p : ByteArray) (k : Nat) (hk : p.size + 4 < k) (hp : p.size ≤ 900000) : path_IsClean.f k p = some (decide ((cleanR p.data.toList).2 = 0) && (cleanR p.data.toList).1.data.toList == p.data.toList) := by
  unfold path_IsClean.f
  rw [clean_eq p k hk hp]
  simp only [Option.bind_some]
  by_cases h : (cleanR p.data.toList).2 = 0
  · rw [if_pos h, decide_eq_true h, tl, tl]; rfl
  · rw [if_neg h, decide_eq_false h]; rfl
theorem join_eq (d n : ByteArray) (k : Nat) (hk : d.size + n.size + 5 < k) (hp : d.size + n.size + 1 ≤ 900000) : path_Join.f k d n = some (if [47].isPrefixOf n.data.toList = true then cleanR n.data.toList else if isGood d.data.toList = true then if isGood n.data.toList = true then cleanR (d.data.toList ++ 47 :: n.data.toList) else (mkB [], 40) else (mkB [], 40)) := by
  have e : ((d ++ (⟨#[47]⟩ : ByteArray)) ++ n).data.toList = d.data.toList ++ 47 :: n.data.toList := by
    rw [ByteArray.data_append, Array.toList_append, slash_data]; simp
  have e1 : (d ++ (⟨#[47]⟩ : ByteArray)).size = d.size + 1 := by rw [← data_len, slash_data, List.length_append, data_len]; rfl
  have e2 : ((d ++ (⟨#[47]⟩ : ByteArray)) ++ n).size = d.size + n.size + 1 := by rw [← data_len, e, List.length_append, List.length_cons, data_len, data_len]; omega
  unfold path_Join.f
  rw [has_eq, clean_eq n k (by omega) (by omega), good_eq d k (by omega) (by omega), good_eq n k (by omega) (by omega), clean_eq _ k (by rw [e2]; omega) (by rw [e2]; omega), e, e1, if_pos (by omega), if_pos (by omega)]
  simp only [Option.bind_some]
  by_cases h : [47].isPrefixOf n.data.toList = true
  · rw [if_pos h, if_pos h]
  · rw [if_neg h, if_neg h]
    by_cases h1 : isGood d.data.toList = true
    · rw [if_pos h1, if_pos h1]
      by_cases h2 : isGood n.data.toList = true
      · rw [if_pos h2, if_pos h2]
      · rw [if_neg h2, if_neg h2]; rfl
    · rw [if_neg h1, if_neg h1]; rfl
theorem pre1 (n : Bs) : ([47].isPrefixOf n = true) ↔ n.head? = some 47 := by
  cases n with
  | nil => simp
  | cons b r => simp; exact ⟨fun h => h.symm, fun h => h.symm⟩
theorem alive_eq (k : Nat) (hk : 100 < k) : messuagelaw04_alive.f k = some true := by
  unfold messuagelaw04_alive.f
  rw [clean_eq _ k (by show 12 + 4 < k; omega) (by decide), clean_eq _ k (by show 1 + 4 < k; omega) (by decide), arch_eq _ (by decide), base_eq _ k (by show 4 < k; omega) (by decide), up_eq _ k (by show 2 < k; omega) (by decide), under_eq _ _ (by decide)]
  simp only [Option.bind_some, tl]
  decide +kernel

end Go.Proofs.YtbkhkdadipigfaaDoor.PathEq
