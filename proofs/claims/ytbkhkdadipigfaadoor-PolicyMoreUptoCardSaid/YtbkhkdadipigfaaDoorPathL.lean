/-
  Paths as lists of bytes: cutting at a byte, the names, cleaning, the last name, what is below what: plain facts on lists, without any program. No condition beyond those that stand in each lemma.
-/
import Derived.Lib.SplitLaws
import Derived.Lib.IndexMore
import Derived.Lib.Join
import Derived.Lib.CutLaws
import Derived.Lib.CountLaws
namespace Go.Proofs.YtbkhkdadipigfaaDoor.PathL

abbrev Bs := List UInt8
def mkB (l : Bs) : ByteArray := ⟨l.toArray⟩
theorem mkB_data (l : Bs) : (mkB l).data.toList = l := by simp [mkB]
theorem mkB_of (a : ByteArray) : mkB a.data.toList = a := by
  obtain ⟨⟨l⟩⟩ := a
  rfl
theorem bext {a b : ByteArray} (h : a.data.toList = b.data.toList) : a = b := by rw [← mkB_of a, ← mkB_of b, h]
theorem data_len (a : ByteArray) : a.data.toList.length = a.size := (Lib.size_eq a).symm
theorem mkB_size (l : Bs) : (mkB l).size = l.length := by rw [← data_len, mkB_data]

/-! ### cutting at a byte -/
def split1 (c : UInt8) : Bs → List Bs
  | [] => [[]]
  | b :: l => if b = c then [] :: split1 c l else (b :: (split1 c l).headD []) :: (split1 c l).tail

theorem split1_ne (c : UInt8) (l : Bs) : split1 c l ≠ [] := by
  cases l with
  | nil => simp [split1]
  | cons b l => unfold split1; split <;> simp

theorem split1_none (c : UInt8) (x : Bs) (h : c ∉ x) : split1 c x = [x] := by
  induction x with
  | nil => rfl
  | cons b x ih =>
    have h1 : ¬ b = c := fun e => h (by simp [e])
    have h2 : c ∉ x := fun e => h (by simp [e])
    simp [split1, h1, ih h2]

theorem split1_append (c : UInt8) (x y : Bs) : split1 c (x ++ c :: y) = split1 c x ++ split1 c y := by
  induction x with
  | nil => simp [split1]
  | cons b x ih =>
    by_cases h : b = c
    · simp [split1, h, ih]
    · simp only [List.cons_append, split1, h, if_false, ih]
      cases hs : split1 c x with
      | nil => exact absurd hs (split1_ne c x)
      | cons u v => simp

theorem split1_hit (c : UInt8) (x r : Bs) (h : c ∉ x) : split1 c (x ++ c :: r) = x :: split1 c r := by
  rw [split1_append, split1_none c x h]; rfl

theorem split1_mem (c : UInt8) (l : Bs) : ∀ s ∈ split1 c l, c ∉ s := by
  induction l with
  | nil => simp [split1]
  | cons b l ih =>
    intro s hs
    unfold split1 at hs
    split at hs
    · rcases List.mem_cons.1 hs with rfl | hs
      · simp
      · exact ih s hs
    · rename_i hb
      rcases List.mem_cons.1 hs with rfl | hs
      · intro hc
        rcases List.mem_cons.1 hc with rfl | hc
        · exact hb rfl
        · cases hq : split1 c l with
          | nil => exact split1_ne c l hq
          | cons u v => rw [hq] at hc; exact ih u (by rw [hq]; simp) hc
      · exact ih s (List.mem_of_mem_tail hs)

theorem split1_sub (c : UInt8) (l : Bs) : ∀ s ∈ split1 c l, ∀ b ∈ s, b ∈ l := by
  induction l with
  | nil => simp [split1]
  | cons a l ih =>
    intro s hs b hb
    unfold split1 at hs
    split at hs
    · rcases List.mem_cons.1 hs with rfl | hs
      · simp at hb
      · exact List.mem_cons_of_mem _ (ih s hs b hb)
    · rcases List.mem_cons.1 hs with rfl | hs
      · rcases List.mem_cons.1 hb with rfl | hb
        · simp
        · cases hq : split1 c l with
          | nil => exact absurd hq (split1_ne c l)
          | cons u v => rw [hq] at hb; exact List.mem_cons_of_mem _ (ih u (by rw [hq]; simp) b hb)
      · exact List.mem_cons_of_mem _ (ih s (List.mem_of_mem_tail hs) b hb)

/-- How many bytes names take, each with one byte ahead. -/
def wt (ns : List Bs) : Nat := (ns.map fun n => n.length + 1).sum
theorem wt_cons (n : Bs) (ns : List Bs) : wt (n :: ns) = n.length + 1 + wt ns := by simp [wt]
theorem wt_append (a b : List Bs) : wt (a ++ b) = wt a + wt b := by simp [wt]
theorem wt_sublist {a b : List Bs} (h : a.Sublist b) : wt a ≤ wt b := by
  induction h with
  | slnil => exact Nat.le_refl _
  | cons x _ ih => rw [wt_cons]; omega
  | cons_cons x _ ih => rw [wt_cons, wt_cons]; omega
theorem split1_wt (c : UInt8) (l : Bs) : wt (split1 c l) = l.length + 1 := by
  induction l with
  | nil => simp [split1, wt]
  | cons b l ih =>
    unfold split1
    split
    · rw [wt_cons, ih]; simp; omega
    · cases hq : split1 c l with
      | nil => exact absurd hq (split1_ne c l)
      | cons u v =>
        rw [hq, wt_cons] at ih
        simp only [List.headD_cons, List.tail_cons, wt_cons, List.length_cons]
        omega

theorem index_one (c : UInt8) (l : Bs) : (Lib.index l [c] = -1 ∧ c ∉ l) ∨ ∃ x r, l = x ++ c :: r ∧ c ∉ x ∧ Lib.index l [c] = x.length := by
  induction l with
  | nil => exact .inl ⟨by simp [Lib.index], by simp⟩
  | cons b l ih =>
    by_cases h : c = b
    · subst h
      exact .inr ⟨[], l, rfl, by simp, by simp [Lib.index]⟩
    · have hp : [c].isPrefixOf (b :: l) = false := by show ((c == b) && List.isPrefixOf [] l) = false; simp [h]
      rcases ih with ⟨h1, h2⟩ | ⟨x, r, rfl, h2, h3⟩
      · refine .inl ⟨?_, by simp [h, h2]⟩
        unfold Lib.index
        rw [hp, h1]
        rfl
      · refine .inr ⟨b :: x, r, rfl, by simp [h, h2], ?_⟩
        unfold Lib.index
        rw [hp, h3]
        have hn : ((x.length : Int) == -1) = false := by simp
        simp [hn]

theorem splitB_split1 (c : UInt8) : ∀ (k : Nat) (s : ByteArray), Lib.countB s ⟨#[c]⟩ = k → (Lib.splitB ⟨#[c]⟩ 0 k s).map (·.data.toList) = split1 c s.data.toList
  | 0, s, hk => by
    rcases index_one c s.data.toList with ⟨h1, h2⟩ | ⟨x, r, hs, h2, h3⟩
    · rw [split1_none c _ h2]; rfl
    · have hi : Lib.indexB s ⟨#[c]⟩ = (x.length : Nat) := h3
      have := Lib.countB_hit s ⟨#[c]⟩ x.length (by simp [ByteArray.size]) hi
      omega
  | k + 1, s, hk => by
    rcases index_one c s.data.toList with ⟨h1, h2⟩ | ⟨x, r, hs, h2, h3⟩
    · have hi : Lib.indexB s ⟨#[c]⟩ = -1 := h1
      have := Lib.countB_miss s ⟨#[c]⟩ hi
      omega
    · have hi : Lib.indexB s ⟨#[c]⟩ = (x.length : Nat) := h3
      have hc := Lib.countB_hit s ⟨#[c]⟩ x.length (by simp [ByteArray.size]) hi
      have ez : (⟨#[c]⟩ : ByteArray).size = 1 := rfl
      rw [ez] at hc
      have hrec := splitB_split1 c k (s.extract (x.length + 1) s.size) (by omega)
      rw [Lib.splitB_hit _ _ _ _ _ hi, ez, List.map_cons, hrec, Nat.add_zero, Lib.extract_from_zero, hs, split1_hit c x r h2]
      have e1 : (s.extract (x.length + 1) s.size).data.toList = r := by
        rw [Lib.extract_to_end, hs]
        simp
      rw [e1]
      simp

/-! ### the names of a path, cleaning -/
def isGood (l : Bs) : Bool := decide (l.length ≤ 256) && l.all fun b => decide (33 ≤ b.toNat) && decide (b.toNat ≤ 126)
def parts (l : Bs) : List Bs := (split1 47 l).filter fun s => !(s == []) && !(s == [46])
def push (st : List Bs) (s : Bs) : List Bs := if s = [46, 46] then st.dropLast else st ++ [s]
def clean (l : Bs) : List Bs := (parts l).foldl push []
def flat (ns : List Bs) : Bs := (ns.map (47 :: ·)).flatten
def render (ns : List Bs) : Bs := if ns = [] then [47] else flat ns

theorem flat_append (a b : List Bs) : flat (a ++ b) = flat a ++ flat b := by simp [flat]
theorem flat_one (n : Bs) : flat [n] = 47 :: n := by simp [flat]
theorem flat_cons (n : Bs) (r : List Bs) : flat (n :: r) = 47 :: n ++ flat r := by simp [flat]
theorem flat_len (ns : List Bs) : (flat ns).length = wt ns := by
  induction ns with
  | nil => rfl
  | cons n r ih => rw [flat_cons, wt_cons]; simp [ih]; omega
theorem flat_ne {ns : List Bs} (h : ns ≠ []) : flat ns ≠ [] := by
  cases ns with
  | nil => exact absurd rfl h
  | cons n r => rw [flat_cons]; simp

/-- Go's own spelling: one byte / and the names joined. -/
theorem join_render (ns : List Bs) : 47 :: Lib.join ns [47] = render ns := by
  unfold render
  cases ns with
  | nil => rfl
  | cons n r =>
    have hj : ∀ (n : Bs) (r : List Bs), Lib.join (n :: r) [47] = n ++ flat r := by
      intro n r
      induction r generalizing n with
      | nil => simp [Lib.join, List.intercalate, flat]
      | cons m t ih =>
        have e : Lib.join (n :: m :: t) [47] = n ++ (47 :: Lib.join (m :: t) [47]) := by
          simp [Lib.join, List.intercalate, List.intersperse]
        rw [e, ih, flat_cons]
        rfl
    rw [hj, if_neg (by simp), flat_cons]
    rfl

/-- The document's way: from the last name to the first, each .. leaves one out. -/
def back : List Bs → Bs → Nat → Bs
  | [], s, _ => s
  | n :: r, s, out => if n = [46, 46] then back r s (out + 1) else if 0 < out then back r s (out - 1) else back r (47 :: n ++ s) out

theorem back_eq (r : List Bs) : ∀ (s : Bs) (out : Nat), back r s out = flat ((r.reverse.foldl push []).take ((r.reverse.foldl push []).length - out)) ++ s := by
  induction r with
  | nil => intro s out; simp [back, flat]
  | cons n r ih =>
    intro s out
    have e : (n :: r).reverse.foldl push [] = push (r.reverse.foldl push []) n := by simp
    rw [e]
    generalize r.reverse.foldl push [] = st at ih
    unfold back push
    by_cases h : n = [46, 46]
    · rw [if_pos h, if_pos h, ih]
      congr 2
      rw [List.length_dropLast, List.dropLast_eq_take, List.take_take]
      congr 1
      omega
    · rw [if_neg h, if_neg h]
      by_cases ho : 0 < out
      · rw [if_pos ho, ih]
        congr 2
        rw [List.length_append, List.take_append_of_le_length (by simp; omega)]
        congr 1
        simp
        omega
      · obtain rfl : out = 0 := by omega
        rw [if_neg ho, ih]
        simp only [Nat.sub_zero, List.take_length]
        rw [flat_append, flat_one]
        simp

theorem back_clean (l : Bs) : (if back (parts l).reverse [] 0 = [] then [47] else back (parts l).reverse [] 0) = render (clean l) := by
  have h := back_eq (parts l).reverse [] 0
  rw [List.reverse_reverse] at h
  simp only [Nat.sub_zero, List.take_length, List.append_nil] at h
  rw [h]
  unfold render clean
  by_cases hc : (parts l).foldl push [] = []
  · rw [if_pos hc, hc]; simp [flat]
  · rw [if_neg hc, if_neg (flat_ne hc)]

/-! ### names that a clean path has -/
def nm (n : Bs) : Prop := n ≠ [] ∧ (47 : UInt8) ∉ n ∧ n ≠ [46] ∧ n ≠ [46, 46]

theorem parts_mem (l : Bs) : ∀ s ∈ parts l, s ≠ [] ∧ (47 : UInt8) ∉ s ∧ s ≠ [46] ∧ ∀ b ∈ s, b ∈ l := by
  intro s hs
  unfold parts at hs
  rw [List.mem_filter] at hs
  obtain ⟨h1, h2⟩ := hs
  simp at h2
  exact ⟨h2.1, split1_mem 47 l s h1, h2.2, split1_sub 47 l s h1⟩

theorem fold_mem (p : List Bs) : ∀ (st : List Bs), ∀ s ∈ p.foldl push st, s ∈ st ∨ (s ∈ p ∧ s ≠ [46, 46]) := by
  induction p with
  | nil => intro st s hs; exact .inl hs
  | cons n r ih =>
    intro st s hs
    rcases ih (push st n) s hs with h | ⟨h, h'⟩
    · unfold push at h
      split at h
      · exact .inl (List.dropLast_subset _ h)
      · rename_i hn
        rcases List.mem_append.1 h with h | h
        · exact .inl h
        · obtain rfl := List.mem_singleton.1 h
          exact .inr ⟨by simp, hn⟩
    · exact .inr ⟨by simp [h], h'⟩

theorem clean_nm (l : Bs) : ∀ s ∈ clean l, nm s := by
  intro s hs
  rcases fold_mem _ _ s hs with h | ⟨h, h'⟩
  · simp at h
  · obtain ⟨a, b, c, _⟩ := parts_mem l s h
    exact ⟨a, b, c, h'⟩

theorem clean_sub (l : Bs) : ∀ s ∈ clean l, ∀ b ∈ s, b ∈ l := by
  intro s hs
  rcases fold_mem _ _ s hs with h | ⟨h, _⟩
  · simp at h
  · exact (parts_mem l s h).2.2.2

theorem fold_sublist (p : List Bs) : ∀ (st q : List Bs), st.Sublist q → (p.foldl push st).Sublist (q ++ p) := by
  induction p with
  | nil => intro st q h; simpa using h
  | cons n r ih =>
    intro st q h
    have h2 : (push st n).Sublist (q ++ [n]) := by
      unfold push
      split
      · exact ((List.dropLast_sublist st).trans h).trans (List.sublist_append_left _ _)
      · exact List.Sublist.append h (List.Sublist.refl _)
    have := ih (push st n) (q ++ [n]) h2
    simpa using this

theorem parts_slash (l : Bs) : parts (47 :: l) = parts l := by
  unfold parts
  simp [split1]

theorem clean_wt (l : Bs) : wt (clean (47 :: l)) ≤ l.length + 1 := by
  have h1 : (clean (47 :: l)).Sublist (parts (47 :: l)) := by
    have := fold_sublist (parts (47 :: l)) [] [] (List.Sublist.refl _)
    unfold clean
    simpa using this
  have h2 : (parts (47 :: l)).Sublist (split1 47 l) := by
    rw [parts_slash]; exact List.filter_sublist
  have := wt_sublist (h1.trans h2)
  rw [split1_wt] at this
  exact this

theorem render_len (l : Bs) : (render (clean (47 :: l))).length ≤ l.length + 1 := by
  unfold render
  split
  · simp
  · rw [flat_len]; exact clean_wt l

theorem flat_mem (ns : List Bs) : ∀ b ∈ flat ns, b = 47 ∨ ∃ s ∈ ns, b ∈ s := by
  induction ns with
  | nil => simp [flat]
  | cons n r ih =>
    intro b hb
    rw [flat_cons] at hb
    rcases List.mem_append.1 hb with hb | hb
    · rcases List.mem_cons.1 hb with rfl | hb
      · exact .inl rfl
      · exact .inr ⟨n, by simp, hb⟩
    · rcases ih b hb with h | ⟨s, hs, h⟩
      · exact .inl h
      · exact .inr ⟨s, by simp [hs], h⟩

theorem render_mem (ns : List Bs) : ∀ b ∈ render ns, b = 47 ∨ ∃ s ∈ ns, b ∈ s := by
  unfold render
  split
  · intro b hb; exact .inl (List.mem_singleton.1 hb)
  · exact flat_mem ns

theorem isGood_iff (l : Bs) : isGood l = true ↔ l.length ≤ 256 ∧ ∀ b ∈ l, 33 ≤ b.toNat ∧ b.toNat ≤ 126 := by
  unfold isGood
  simp

theorem good_clean (l : Bs) (h : isGood (47 :: l) = true) : isGood (render (clean (47 :: l))) = true := by
  rw [isGood_iff] at h ⊢
  obtain ⟨h1, h2⟩ := h
  refine ⟨Nat.le_trans (render_len l) (by simpa using h1), fun b hb => ?_⟩
  rcases render_mem _ b hb with rfl | ⟨s, hs, hb⟩
  · decide
  · exact h2 b (clean_sub _ s hs b hb)

theorem render_head (ns : List Bs) : ∃ r, render ns = 47 :: r := by
  unfold render
  split
  · exact ⟨[], rfl⟩
  · cases ns with
    | nil => contradiction
    | cons n r => exact ⟨n ++ flat r, by rw [flat_cons]; rfl⟩

theorem split1_flat (ns : List Bs) (h : ∀ s ∈ ns, (47 : UInt8) ∉ s) : split1 47 (flat ns) = [] :: ns := by
  induction ns with
  | nil => rfl
  | cons n r ih =>
    have hr := ih (fun s hs => h s (by simp [hs]))
    have hn := h n (by simp)
    rw [flat_cons]
    cases r with
    | nil =>
      simp only [flat, List.map_nil, List.flatten_nil, List.append_nil]
      have := split1_hit 47 [] n (by simp)
      simp only [List.nil_append] at this
      rw [this, split1_none 47 n hn]
    | cons m t =>
      have e : 47 :: n ++ flat (m :: t) = [] ++ 47 :: (n ++ 47 :: (m ++ flat t)) := by rw [flat_cons]; simp
      rw [e, split1_hit 47 [] _ (by simp), split1_hit 47 n _ hn]
      have e2 : flat (m :: t) = [] ++ 47 :: (m ++ flat t) := by rw [flat_cons]; rfl
      rw [e2, split1_hit 47 [] _ (by simp)] at hr
      injection hr with _ hr
      rw [hr]

theorem parts_flat (ns : List Bs) (h : ∀ s ∈ ns, nm s) : parts (flat ns) = ns := by
  unfold parts
  rw [split1_flat ns (fun s hs => (h s hs).2.1)]
  have e : ∀ s ∈ ns, (!(s == []) && !(s == [46])) = true := by
    intro s hs
    obtain ⟨a, _, c, _⟩ := h s hs
    simp [a, c]
  rw [List.filter_cons_of_neg (by simp), List.filter_eq_self.2 e]

theorem parts_render (ns : List Bs) (h : ∀ s ∈ ns, nm s) : parts (render ns) = ns := by
  unfold render
  split
  · rename_i hn; rw [hn]; rfl
  · exact parts_flat ns h

theorem fold_nm (ns : List Bs) (h : ∀ s ∈ ns, nm s) : ∀ st, ns.foldl push st = st ++ ns := by
  induction ns with
  | nil => intro st; simp
  | cons n r ih =>
    intro st
    have hn : push st n = st ++ [n] := by unfold push; rw [if_neg (h n (by simp)).2.2.2]
    rw [List.foldl_cons, hn, ih (fun s hs => h s (by simp [hs]))]
    simp

theorem clean_render (ns : List Bs) (h : ∀ s ∈ ns, nm s) : clean (render ns) = ns := by
  unfold clean
  rw [parts_render ns h, fold_nm ns h]
  simp

theorem parts_join (x y : Bs) : parts (x ++ 47 :: y) = parts x ++ parts y := by
  unfold parts
  rw [split1_append, List.filter_append]

theorem clean_join (x y : Bs) : clean (x ++ 47 :: y) = (parts y).foldl push (clean x) := by
  unfold clean
  rw [parts_join, List.foldl_append]

/-! ### the last name, the folder above, what is below what -/
theorem last_cases (l : Bs) : (47 : UInt8) ∉ l ∨ ∃ x y, l = x ++ 47 :: y ∧ (47 : UInt8) ∉ y := by
  induction l with
  | nil => exact .inl (by simp)
  | cons b l ih =>
    rcases ih with h | ⟨x, y, rfl, h⟩
    · by_cases hb : (47 : UInt8) = b
      · subst hb; exact .inr ⟨[], l, rfl, h⟩
      · exact .inl (by simp [hb, h])
    · exact .inr ⟨b :: x, y, rfl, h⟩
theorem last_uniq {x y x' y' : Bs} (h : x ++ 47 :: y = x' ++ 47 :: y') (hy : (47 : UInt8) ∉ y) (hy' : (47 : UInt8) ∉ y') : x = x' ∧ y = y' := by
  induction x generalizing x' with
  | nil =>
    cases x' with
    | nil => simpa using h
    | cons a x' =>
      simp at h
      exact absurd (h.2 ▸ by simp : (47 : UInt8) ∈ y) hy
  | cons b x ih =>
    cases x' with
    | nil =>
      simp at h
      exact absurd (h.2 ▸ by simp : (47 : UInt8) ∈ y') hy'
    | cons a x' =>
      simp only [List.cons_append, List.cons.injEq] at h
      obtain ⟨e1, e2⟩ := ih h.2
      exact ⟨by rw [h.1, e1], e2⟩

/-- The place of the last /. -/
def lastI : Bs → Option Nat
  | [] => none
  | b :: l => match lastI l with | some i => some (i + 1) | none => if b = 47 then some 0 else none
theorem lastI_none {l : Bs} (h : (47 : UInt8) ∉ l) : lastI l = none := by
  induction l with
  | nil => rfl
  | cons b l ih =>
    have h1 : ¬ b = 47 := fun e => h (by simp [e])
    rw [lastI, ih (fun e => h (by simp [e]))]
    simp [h1]
theorem lastI_some {x y : Bs} (h : (47 : UInt8) ∉ y) : lastI (x ++ 47 :: y) = some x.length := by
  induction x with
  | nil => simp [lastI, lastI_none h]
  | cons b x ih => rw [List.cons_append, lastI, ih]; simp

def base (l : Bs) : Bs := match lastI l with | some i => l.drop (i + 1) | none => l
def up (l : Bs) : Bs := match lastI l with | some i => if i = 0 then [47] else l.take i | none => [47]
theorem base_some {x y : Bs} (h : (47 : UInt8) ∉ y) : base (x ++ 47 :: y) = y := by
  unfold base; rw [lastI_some h]; simp
theorem up_some {x y : Bs} (h : (47 : UInt8) ∉ y) : up (x ++ 47 :: y) = if x = [] then [47] else x := by
  unfold up; rw [lastI_some h]
  cases x <;> simp

def under (p d : Bs) : Bool := if d = [47] then [47].isPrefixOf p else decide (p = d) || (d ++ [47]).isPrefixOf p
def child (p d : Bs) : Bool := !(p == [47]) && !(p == []) && (up p == d)

theorem render_snoc (ms : List Bs) (b : Bs) : render (ms ++ [b]) = flat ms ++ 47 :: b := by
  unfold render
  rw [if_neg (by simp), flat_append, flat_one]
theorem base_render (ms : List Bs) (b : Bs) (hb : nm b) : base (render (ms ++ [b])) = b := by rw [render_snoc, base_some hb.2.1]
theorem up_render (ms : List Bs) (b : Bs) (hb : nm b) : up (render (ms ++ [b])) = render ms := by
  rw [render_snoc, up_some hb.2.1]
  unfold render
  by_cases h : ms = []
  · rw [if_pos h, h]; rfl
  · rw [if_neg h, if_neg (flat_ne h)]

theorem render_inj {a b : List Bs} (ha : ∀ s ∈ a, nm s) (hb : ∀ s ∈ b, nm s) (h : render a = render b) : a = b := by
  have := congrArg parts h
  rwa [parts_render a ha, parts_render b hb] at this

theorem flat_prefix {a b : List Bs} (ha : ∀ s ∈ a, nm s) (hb : ∀ s ∈ b, nm s) (h : (flat b ++ [47]).isPrefixOf (flat a) = true) : ∃ c, c ≠ [] ∧ a = b ++ c := by
  rw [List.isPrefixOf_iff_prefix] at h
  obtain ⟨t, ht⟩ := h
  have e : flat a = flat b ++ 47 :: t := by rw [← ht]; simp
  have hp := congrArg (split1 47) e
  rw [split1_append, split1_flat a (fun s hs => (ha s hs).2.1), split1_flat b (fun s hs => (hb s hs).2.1)] at hp
  simp only [List.cons_append, List.cons.injEq, true_and] at hp
  exact ⟨split1 47 t, split1_ne 47 t, hp⟩

theorem under_render {a b : List Bs} (ha : ∀ s ∈ a, nm s) (hb : ∀ s ∈ b, nm s) : under (render a) (render b) = true ↔ ∃ c, a = b ++ c := by
  unfold under
  by_cases h0 : b = []
  · subst h0
    have : render ([] : List Bs) = [47] := rfl
    rw [if_pos this]
    obtain ⟨r, hr⟩ := render_head a
    rw [hr]
    simp
  · have hb1 : render b ≠ [47] := by
      intro e
      have : b = [] := render_inj hb (by simp) (e.trans rfl)
      exact h0 this
    rw [if_neg hb1]
    have eb : render b = flat b := by unfold render; rw [if_neg h0]
    constructor
    · intro h
      rw [Bool.or_eq_true, decide_eq_true_iff] at h
      rcases h with h | h
      · exact ⟨[], by rw [render_inj ha hb h]; simp⟩
      · by_cases ha0 : a = []
        · subst ha0
          rw [eb, show render ([] : List Bs) = [47] from rfl, List.isPrefixOf_iff_prefix] at h
          have := h.length_le
          have h2 := flat_len b
          cases b with
          | nil => exact absurd rfl h0
          | cons n r =>
            have h3 : n ≠ [] := (hb n (by simp)).1
            have h4 : 0 < n.length := List.length_pos_iff.2 h3
            rw [wt_cons] at h2
            rw [List.length_append, h2] at this
            simp only [List.length_cons, List.length_nil] at this
            omega
        · rw [eb, show render a = flat a from by unfold render; rw [if_neg ha0]] at h
          obtain ⟨c, _, hc⟩ := flat_prefix ha hb h
          exact ⟨c, hc⟩
    · rintro ⟨c, rfl⟩
      by_cases hc : c = []
      · subst hc; simp
      · rw [Bool.or_eq_true]
        refine .inr ?_
        rw [eb, show render (b ++ c) = flat (b ++ c) from by unfold render; rw [if_neg (by simp [h0])], flat_append, List.isPrefixOf_iff_prefix]
        cases c with
        | nil => exact absurd rfl hc
        | cons n r => rw [flat_cons]; exact ⟨n ++ flat r, by simp⟩

end Go.Proofs.YtbkhkdadipigfaaDoor.PathL
