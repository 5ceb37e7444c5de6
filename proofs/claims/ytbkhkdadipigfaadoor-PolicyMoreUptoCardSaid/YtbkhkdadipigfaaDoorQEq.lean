/-
  What the printed functions of the packages path and messuageref04 compute of texts, said in lists of bytes: the parts of PathEq that package policy wants, for texts of up to 2900000 bytes. Conditions: the sizes that stand in each lemma.
-/
import Derived.Test.YtbkhkdadipigfaaDoorPathL
import Derived.Test.YtbkhkdadipigfaaDoorQx4
import Derived.Test.YtbkhkdadipigfaaDoorQx10
import Derived.Test.YtbkhkdadipigfaaDoorQx11
import Derived.IntWalk
namespace Go.Proofs.YtbkhkdadipigfaaDoor.QEq
open Go.RowKit Go.Proofs.YtbkhkdadipigfaaDoor.Q Go.Proofs.YtbkhkdadipigfaaDoorW.PrintWords Go.Proofs.YtbkhkdadipigfaaDoorW.PrintLast
open Go.Proofs.YtbkhkdadipigfaaDoor.PathL

theorem w1 (i : Nat) (h : i < 3000000) : wrap64 ((i : Int) + 1) = ((i + 1 : Nat) : Int) := by
  rw [IntWalk.wrap64_in _ (by omega)]; rfl
theorem bt_get (s : ByteArray) (i : Nat) (h : i < s.data.toList.length) : bt s (i : Int) = ((s.data.toList[i]'h).toNat : Int) := by
  have h' : (i : Int).toNat < s.size := by rw [data_len] at h; simpa using h
  unfold bt
  rw [dif_pos h']
  rfl
theorem u8_eq (b c : UInt8) : (b.toNat : Int) = (c.toNat : Int) ↔ b = c := by
  constructor
  · intro h; exact UInt8.toNat_inj.1 (by omega)
  · rintro rfl; rfl
theorem tl (a : ByteArray) : a.toList = a.data.toList := Lib.toList_data a
theorem mt (l : Bs) : (mkB l).toList = l := by rw [tl, mkB_data]
theorem rdOf_get (xs : List ByteArray) (i : Nat) (h : i < xs.length) : rdOf ByteArray.empty xs (i : Int) = xs[i] := by
  unfold rdOf
  simp [List.getD_eq_getElem?_getD, h]

/-! ### a good path -/
theorem extract_l (p : ByteArray) (a b : Nat) : p.extract a b = mkB ((p.data.toList.drop a).take (b - a)) := by
  apply bext; rw [Lib.extract_data, mkB_data]

theorem lastI_snoc (x : Bs) (b : UInt8) : lastI (x ++ [b]) = if b = 47 then some x.length else lastI x := by
  by_cases h : b = 47
  · subst h
    rw [if_pos rfl]
    exact lastI_some (y := []) (by simp)
  · rw [if_neg h]
    have hb : ¬ (47 : UInt8) = b := fun e => h e.symm
    rcases last_cases x with hx | ⟨u, v, rfl, hv⟩
    · rw [lastI_none hx, lastI_none (by simp [hx, hb])]
    · rw [lastI_some hv, List.append_assoc, List.cons_append, lastI_some (by simp [hv, hb])]
theorem lastI_lt {l : Bs} {i : Nat} (h : lastI l = some i) : i < l.length := by
  rcases last_cases l with hx | ⟨u, v, rfl, hv⟩
  · rw [lastI_none hx] at h; cases h
  · rw [lastI_some hv] at h
    obtain rfl := Option.some.inj h
    simp
def lastZ (l : Bs) : Int := match lastI l with | some i => (i : Int) | none => -1

theorem lastByte_l0 (p : ByteArray) (hp : p.size ≤ 2900000) (n : Nat) : ∀ (k : Nat), n ≤ p.size → n < k → bytealg_LastIndexByteString.l0 k p 47 ((n : Int) - 1) = some (lastZ (p.data.toList.take n)) := by
  induction n with
  | zero =>
    intro k hn hk
    obtain ⟨k, rfl⟩ : ∃ n, k = n + 1 := ⟨k - 1, by omega⟩
    simp only [bytealg_LastIndexByteString.l0]
    rw [if_neg (by omega)]
    rfl
  | succ n ih =>
    intro k hn hk
    obtain ⟨k, rfl⟩ : ∃ n, k = n + 1 := ⟨k - 1, by omega⟩
    have hl : n < p.data.toList.length := by rw [data_len]; omega
    have e1 : (((n + 1 : Nat) : Int) - 1) = (n : Int) := by omega
    have e2 : wrap64 ((n : Int) - 1) = (n : Int) - 1 := IntWalk.wrap64_in _ (by omega)
    have h47 := u8_eq (p.data.toList[n]) 47
    rw [show (((47 : UInt8).toNat : Nat) : Int) = 47 from rfl] at h47
    rw [e1, List.take_succ_eq_append_getElem hl]
    unfold lastZ
    rw [lastI_snoc]
    simp only [bytealg_LastIndexByteString.l0]
    rw [if_pos (by omega), if_pos (by omega), if_pos (by omega), bt_get p n hl, e2, ih k (by omega) (by omega)]
    by_cases hb : p.data.toList[n] = 47
    · rw [if_pos (h47.2 hb), if_pos hb, List.length_take, Nat.min_eq_left (Nat.le_of_lt hl)]
    · rw [if_neg (fun h => hb (h47.1 h)), if_neg hb]
      rfl
theorem lastByte_eq (p : ByteArray) (k : Nat) (hk : p.size < k) (hp : p.size ≤ 2900000) : strings_LastIndexByte.f k p 47 = some (lastZ p.data.toList) := by
  unfold strings_LastIndexByte.f bytealg_LastIndexByteString.f
  rw [show wrap64 ((p.size : Int) - 1) = (p.size : Int) - 1 from IntWalk.wrap64_in _ (by omega), lastByte_l0 p hp p.size k (Nat.le_refl _) hk, List.take_of_length_le (by rw [data_len]; omega)]
  rfl

theorem rlast_l0 (p : ByteArray) (hp : p.size ≤ 2900000) (d : Nat) : ∀ (k i : Nat) (at_ : Int), i ≤ p.size → p.size - i = d → d < k →
    messuageref04_last.l0 k p at_ i = some (match lastI (p.data.toList.drop i) with | some j => ((i + j : Nat) : Int) | none => at_) := by
  induction d with
  | zero =>
    intro k i at_ hi hd hk
    obtain ⟨k, rfl⟩ : ∃ n, k = n + 1 := ⟨k - 1, by omega⟩
    simp only [messuageref04_last.l0]
    rw [if_neg (by omega), List.drop_eq_nil_of_le (by rw [data_len]; omega)]
    rfl
  | succ d ih =>
    intro k i at_ hi hd hk
    obtain ⟨k, rfl⟩ : ∃ n, k = n + 1 := ⟨k - 1, by omega⟩
    have hl : i < p.data.toList.length := by rw [data_len]; omega
    have h47 := u8_eq (p.data.toList[i]) 47
    rw [show (((47 : UInt8).toNat : Nat) : Int) = 47 from rfl] at h47
    simp only [messuageref04_last.l0]
    rw [if_pos (by omega), if_pos (by omega), bt_get p i hl, w1 i (by omega), ih k (i + 1) _ (by omega) (by omega) (by omega), ih k (i + 1) _ (by omega) (by omega) (by omega), List.drop_eq_getElem_cons hl, lastI]
    cases hq : lastI (p.data.toList.drop (i + 1)) with
    | some j => simp only [ite_self]; congr 1; omega
    | none =>
      by_cases hb : p.data.toList[i] = 47
      · rw [if_pos (h47.2 hb), if_pos hb]; rfl
      · rw [if_neg (fun h => hb (h47.1 h)), if_neg hb]
theorem rlast_eq (p : ByteArray) (k : Nat) (hk : p.size < k) (hp : p.size ≤ 2900000) : messuageref04_last.f k p = some (lastZ p.data.toList) := by
  unfold messuageref04_last.f
  have := rlast_l0 p hp p.size k 0 (-1) (by omega) (by omega) hk
  rw [show ((0 : Nat) : Int) = 0 from rfl] at this
  rw [this, List.drop_zero]
  unfold lastZ
  cases lastI p.data.toList with
  | some j => simp
  | none => rfl

theorem lastZ_cases (l : Bs) : (lastI l = none ∧ lastZ l = -1) ∨ ∃ i : Nat, lastI l = some i ∧ lastZ l = i ∧ i < l.length := by
  unfold lastZ
  cases h : lastI l with
  | none => exact .inl ⟨rfl, rfl⟩
  | some i => exact .inr ⟨i, rfl, rfl, lastI_lt h⟩

theorem base_of (p : ByteArray) (hp : p.size ≤ 2900000) : (if 0 ≤ (wrap64 (lastZ p.data.toList + 1)) then (if (wrap64 (lastZ p.data.toList + 1)) ≤ (p.size : Int) then (some (p.extract ((wrap64 (lastZ p.data.toList + 1)) : Int).toNat p.size)) else (none)) else (none)) = some (mkB (base p.data.toList)) := by
  unfold base
  rcases lastZ_cases p.data.toList with ⟨h1, h2⟩ | ⟨i, h1, h2, h3⟩
  · rw [h2, h1, show wrap64 (-1 + 1) = 0 from by unfold wrap64; omega, if_pos (by omega), if_pos (by omega)]
    congr 1
    exact bext (by rw [mkB_data, show (0 : Int).toNat = 0 from rfl, Lib.extract_to_end, List.drop_zero])
  · rw [data_len] at h3
    rw [h2, h1, w1 i (by omega), if_pos (by omega), if_pos (by omega)]
    congr 1
    exact bext (by rw [mkB_data, show (((i + 1 : Nat) : Int)).toNat = i + 1 from rfl, Lib.extract_to_end])
theorem base_eq (p : ByteArray) (k : Nat) (hk : p.size < k) (hp : p.size ≤ 2900000) : path_Base.f k p = some (mkB (base p.data.toList)) := by
  unfold path_Base.f
  rw [lastByte_eq p k hk hp]
  exact base_of p hp
theorem rbase_eq (p : ByteArray) (k : Nat) (hk : p.size < k) (hp : p.size ≤ 2900000) : messuageref04_Base.f k p = some (mkB (base p.data.toList)) := by
  unfold messuageref04_Base.f
  rw [rlast_eq p k hk hp]
  exact base_of p hp
theorem up_of (p : ByteArray) (i : Nat) (h1 : lastI p.data.toList = some i) (h0 : i ≠ 0) : mkB (PathL.up p.data.toList) = p.extract 0 i := by
  unfold PathL.up
  rw [h1]
  simp only [if_neg h0]
  exact bext (by rw [mkB_data, Lib.extract_data]; simp)
theorem up_root (l : Bs) (h : lastI l = none ∨ lastI l = some 0) : PathL.up l = [47] := by
  unfold PathL.up
  rcases h with h | h <;> rw [h] <;> rfl
theorem up_eq (p : ByteArray) (k : Nat) (hk : p.size < k) (hp : p.size ≤ 2900000) : path_Up.f k p = some (mkB (PathL.up p.data.toList)) := by
  unfold path_Up.f
  rw [lastByte_eq p k hk hp]
  simp only [Option.bind_some]
  rcases lastZ_cases p.data.toList with ⟨h1, h2⟩ | ⟨i, h1, h2, h3⟩
  · rw [h2, if_pos (by omega), up_root _ (.inl h1)]; rfl
  · rw [data_len] at h3
    by_cases h0 : i = 0
    · subst h0; rw [h2, if_pos (by omega), up_root _ (.inr h1)]; rfl
    · rw [h2, if_neg (by omega), if_pos (by omega), if_pos (by omega), up_of p i h1 h0]; rfl
theorem rup_eq (p : ByteArray) (k : Nat) (hk : p.size < k) (hp : p.size ≤ 2900000) : messuageref04_Up.f k p = some (mkB (PathL.up p.data.toList)) := by
  unfold messuageref04_Up.f
  rw [rlast_eq p k hk hp]
  simp only [Option.bind_some]
  rcases lastZ_cases p.data.toList with ⟨h1, h2⟩ | ⟨i, h1, h2, h3⟩
  · rw [h2, if_pos (by omega), up_root _ (.inl h1)]; rfl
  · rw [data_len] at h3
    by_cases h0 : i = 0
    · subst h0; rw [h2, if_pos (by omega), up_root _ (.inr h1)]; rfl
    · rw [h2, if_neg (by omega), if_pos (by omega), if_pos (by omega), up_of p i h1 h0]; rfl

/-! ### what is below what -/
theorem take_prefix (a b : Bs) : (a.take b.length == b) = b.isPrefixOf a := by
  rw [Bool.eq_iff_iff, beq_iff_eq, List.isPrefixOf_iff_prefix, List.prefix_iff_eq_take]
  exact ⟨fun e => e.symm, fun e => e.symm⟩
theorem prefix_short (a b : Bs) (h : ¬ b.length ≤ a.length) : b.isPrefixOf a = false := by
  rw [Bool.eq_false_iff]
  intro e
  rw [List.isPrefixOf_iff_prefix] at e
  exact h e.length_le
theorem has_of (a b : ByteArray) : (if (a.size : Int) ≥ (b.size : Int) then (if 0 ≤ (b.size : Int) then (if (b.size : Int) ≤ (a.size : Int) then (some ((a.extract 0 ((b.size : Int) : Int).toNat).toList == b.toList)) else (none)) else (none)) else (some false)) = some (b.data.toList.isPrefixOf a.data.toList) := by
  by_cases h : (a.size : Int) ≥ (b.size : Int)
  · rw [if_pos h, if_pos (by omega), if_pos (by omega), tl, tl, Lib.extract_data, List.drop_zero, Nat.sub_zero, show ((b.size : Nat) : Int).toNat = b.size from rfl, ← data_len b, take_prefix]
  · rw [if_neg h, prefix_short _ _ (by rw [data_len, data_len]; omega)]
theorem has_eq (a b : ByteArray) : strings_HasPrefix.f a b = some (b.data.toList.isPrefixOf a.data.toList) := by
  unfold strings_HasPrefix.f stringslite_HasPrefix.f
  rw [has_of]
  rfl
theorem begins_eq (a b : ByteArray) : messuageref04_begins.f a b = some (b.data.toList.isPrefixOf a.data.toList) := by
  unfold messuageref04_begins.f
  exact has_of a b
theorem slash_data (d : ByteArray) : (d ++ (⟨#[47]⟩ : ByteArray)).data.toList = d.data.toList ++ [47] := by
  rw [ByteArray.data_append]; simp
theorem under_eq (p d : ByteArray) (hd : d.size ≤ 2900000) : path_Under.f p d = some (under p.data.toList d.data.toList) := by
  unfold path_Under.f under
  rw [tl, tl, has_eq, has_eq, slash_data]
  by_cases h : d.data.toList = [47]
  · rw [if_pos h, if_pos h]; rfl
  · rw [if_neg h, if_neg h]
    by_cases h2 : p.data.toList = d.data.toList
    · rw [if_pos h2, decide_eq_true h2]; rfl
    · rw [if_neg h2, decide_eq_false h2, if_pos (by omega)]; rfl
theorem runder_eq (p d : ByteArray) (hd : d.size ≤ 2900000) : messuageref04_Under.f p d = some (under p.data.toList d.data.toList) := by
  unfold messuageref04_Under.f under
  rw [tl, tl, begins_eq, begins_eq, slash_data]
  by_cases h : d.data.toList = [47]
  · rw [if_pos h, if_pos h]; rfl
  · rw [if_neg h, if_neg h]
    by_cases h2 : p.data.toList = d.data.toList
    · rw [if_pos h2, decide_eq_true h2]; rfl
    · rw [if_neg h2, decide_eq_false h2, if_pos (by omega)]; rfl
theorem child_eq (p d : ByteArray) (k : Nat) (hk : p.size < k) (hp : p.size ≤ 2900000) : path_Child.f k p d = some (child p.data.toList d.data.toList) := by
  unfold path_Child.f child
  rw [up_eq p k hk hp, tl]
  simp only [Option.bind_some]
  rw [mt, tl]
  by_cases h1 : p.data.toList = [47]
  · rw [if_pos h1, h1]; rfl
  · rw [if_neg h1, beq_eq_false_iff_ne.2 h1]
    by_cases h2 : p.data.toList = []
    · rw [if_pos h2, h2]; rfl
    · rw [if_neg h2, beq_eq_false_iff_ne.2 h2]; rfl
theorem rchild_eq (p d : ByteArray) (k : Nat) (hk : p.size < k) (hp : p.size ≤ 2900000) : messuageref04_Child.f k p d = some (child p.data.toList d.data.toList) := by
  unfold messuageref04_Child.f child
  rw [rup_eq p k hk hp, tl]
  simp only [Option.bind_some]
  rw [mt, tl]
  by_cases h1 : p.data.toList = [47]
  · rw [h1]; rfl
  · rw [if_neg h1, beq_eq_false_iff_ne.2 h1]
    by_cases h2 : p.data.toList = []
    · rw [if_pos h2, h2]; rfl
    · rw [if_neg h2, beq_eq_false_iff_ne.2 h2]; rfl

/-! ### archives -/
def arch (l : Bs) : ByteArray × ByteArray × Bool := (mkB (Lib.cut l [33, 47]).1, mkB (Lib.cut l [33, 47]).2.1, (Lib.cut l [33, 47]).2.2)
theorem arch_eq (p : ByteArray) (hp : p.size ≤ 2900000) : path_Archive.f p = some (arch p.data.toList) := by
  unfold path_Archive.f strings_Cut.f
  rw [if_pos (by omega)]
  rfl
def archAt (l : Bs) (i : Nat) : ByteArray × ByteArray × Bool :=
  if 0 ≤ Lib.index (l.drop i) [33, 47] then (mkB (l.take (i + (Lib.index (l.drop i) [33, 47]).toNat)), mkB (l.drop (i + (Lib.index (l.drop i) [33, 47]).toNat + 2)), true) else (mkB l, mkB [], false)
theorem index_short (l : Bs) (h : l.length ≤ 1) : Lib.index l [33, 47] = -1 := by
  match l, h with
  | [], _ => rfl
  | [b], _ => simp [Lib.index]
  | _ :: _ :: _, h => simp at h
theorem pre2 (b c : UInt8) (l : Bs) : [33, 47].isPrefixOf (b :: c :: l) = (b == 33 && c == 47) := by
  show ((33 == b) && ((47 == c) && List.isPrefixOf [] l)) = _
  rw [show List.isPrefixOf [] l = true from by cases l <;> rfl, Bool.and_true, Bool.beq_comm, Bool.beq_comm (a := (47 : UInt8))]
theorem archAt_step (l : Bs) (i : Nat) (hl : i < l.length) (h : [33, 47].isPrefixOf (l.drop i) = false) : archAt l i = archAt l (i + 1) := by
  have hx := Lib.index_ge (l.drop (i + 1)) [33, 47]
  unfold archAt
  rw [List.drop_eq_getElem_cons hl] at h ⊢
  have e : Lib.index (l[i] :: l.drop (i + 1)) [33, 47] = if Lib.index (l.drop (i + 1)) [33, 47] == -1 then -1 else Lib.index (l.drop (i + 1)) [33, 47] + 1 := by
    rw [Lib.index, h]; rfl
  rw [e]
  by_cases hm : Lib.index (l.drop (i + 1)) [33, 47] = -1
  · rw [hm]; rfl
  · rw [beq_eq_false_iff_ne.2 hm]
    simp only [Bool.false_eq_true, if_false]
    rw [if_pos (by omega), if_pos (by omega)]
    have e3 : i + (Lib.index (l.drop (i + 1)) [33, 47] + 1).toNat = i + 1 + (Lib.index (l.drop (i + 1)) [33, 47]).toNat := by omega
    rw [e3]
theorem rarch_l0 (p : ByteArray) (hp : p.size ≤ 2900000) (d : Nat) : ∀ (k i : Nat), i ≤ p.size → p.size - i = d → 2 * d < k → messuageref04_Archive.l0 k p i = some (archAt p.data.toList i) := by
  induction d with
  | zero =>
    intro k i hi hd hk
    obtain ⟨k, rfl⟩ : ∃ n, k = n + 1 := ⟨k - 1, by omega⟩
    simp only [messuageref04_Archive.l0]
    rw [w1 i (by omega), if_neg (by omega)]
    unfold archAt
    rw [index_short _ (by rw [List.length_drop, data_len]; omega), if_neg (by omega), mkB_of]
    rfl
  | succ d ih =>
    intro k i hi hd hk
    obtain ⟨k, rfl⟩ : ∃ n, k = n + 2 := ⟨k - 2, by omega⟩
    have hl : i < p.data.toList.length := by rw [data_len]; omega
    simp only [messuageref04_Archive.l0, messuageref04_Archive.j1]
    rw [w1 i (by omega)]
    by_cases hs : i + 1 < p.size
    · have hl2 : i + 1 < p.data.toList.length := by rw [data_len]; omega
      have e2 : wrap64 ((i : Int) + 2) = ((i + 2 : Nat) : Int) := by rw [IntWalk.wrap64_in _ (by omega)]; rfl
      have hpre : [33, 47].isPrefixOf (p.data.toList.drop i) = (p.data.toList[i] == 33 && p.data.toList[i + 1] == 47) := by
        rw [List.drop_eq_getElem_cons hl, List.drop_eq_getElem_cons hl2, pre2]
      have h33 := u8_eq (p.data.toList[i]) 33
      have h47 := u8_eq (p.data.toList[i + 1]) 47
      rw [show (((33 : UInt8).toNat : Nat) : Int) = 33 from rfl] at h33
      rw [show (((47 : UInt8).toNat : Nat) : Int) = 47 from rfl] at h47
      rw [if_pos (by omega), if_pos (by omega), if_pos (by omega), bt_get p i hl, bt_get p (i + 1) hl2, e2, if_neg (show ¬ (false = true) by decide), ih k (i + 1) (by omega) (by omega) (by omega)]
      by_cases h1 : p.data.toList[i] = 33
      · rw [if_pos (h33.2 h1), if_pos (by omega)]
        by_cases h2 : p.data.toList[i + 1] = 47
        · rw [if_pos (beq_iff_eq.2 (h47.2 h2)), if_pos (by omega), if_pos (by omega), if_pos (by omega)]
          congr 1
          unfold archAt
          have e3 : Lib.index (p.data.toList.drop i) [33, 47] = 0 := by
            rw [List.drop_eq_getElem_cons hl] at hpre ⊢
            rw [Lib.index, hpre, h1, h2]
            rfl
          rw [e3, if_pos (by omega), extract_l, extract_l, List.drop_zero, Nat.sub_zero]
          have e4 : ((i + 2 : Nat) : Int).toNat = i + 2 := rfl
          have e5 : (p.data.toList.drop (i + 2)).take (p.size - (i + 2)) = p.data.toList.drop (i + 2) := List.take_of_length_le (by rw [List.length_drop, data_len]; omega)
          rw [e4, show (i : Int).toNat = i from rfl, show (0 : Int).toNat = 0 from rfl, Nat.add_zero, e5]
          rfl
        · rw [if_neg (fun h => h2 (h47.1 (beq_iff_eq.1 h))), archAt_step _ _ hl (by rw [hpre, beq_eq_false_iff_ne.2 h2, Bool.and_false])]
      · rw [if_neg (fun h => h1 (h33.1 h)), archAt_step _ _ hl (by rw [hpre, beq_eq_false_iff_ne.2 h1, Bool.false_and])]
    · rw [if_neg (by omega)]
      unfold archAt
      rw [index_short _ (by rw [List.length_drop, data_len]; omega), if_neg (by omega), mkB_of]
      rfl
theorem rarch_eq (p : ByteArray) (k : Nat) (hk : 2 * p.size < k) (hp : p.size ≤ 2900000) : messuageref04_Archive.f k p = some (arch p.data.toList) := by
  unfold messuageref04_Archive.f
  have := rarch_l0 p hp p.size k 0 (by omega) (by omega) hk
  rw [show ((0 : Nat) : Int) = 0 from rfl] at this
  rw [this]
  congr 1
  unfold archAt arch Lib.cut
  rw [List.drop_zero]
  by_cases h : 0 ≤ Lib.index p.data.toList [33, 47]
  · rw [if_pos h, if_pos h, Nat.zero_add]; rfl
  · rw [if_neg h, if_neg h]

/-! ### lists -/
end Go.Proofs.YtbkhkdadipigfaaDoor.QEq
