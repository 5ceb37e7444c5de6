/-
  What the printed functions of package policy and of its reference compute of a namespace, a setting and texts, said in lists. Conditions: the sizes that stand in each lemma.
-/
import Derived.Test.YtbkhkdadipigfaaDoorQPol
import Derived.Test.YtbkhkdadipigfaaDoorQx10
import Derived.Test.YtbkhkdadipigfaaDoorQx11
namespace Go.Proofs.YtbkhkdadipigfaaDoor.QAskEq
open Go.RowKit Go.Proofs.YtbkhkdadipigfaaDoor.Q Go.Proofs.YtbkhkdadipigfaaDoorW.PrintWords Go.Proofs.YtbkhkdadipigfaaDoorW.PrintLast
open Go.Proofs.YtbkhkdadipigfaaDoor.PathL Go.Proofs.YtbkhkdadipigfaaDoor.QEq Go.Proofs.YtbkhkdadipigfaaDoor.QPol

def hasL (xs : List ByteArray) (s : ByteArray) : Bool := xs.any fun x => decide (x.toList = s.toList)
theorem drop_at {α : Type} (xs : List α) (i : Nat) (h : i < xs.length) : xs.drop i = xs[i] :: xs.drop (i + 1) := List.drop_eq_getElem_cons h

theorem has_l0 (s : ByteArray) (xs : List ByteArray) (hx : xs.length ≤ 2000000) (d : Nat) : ∀ (k i : Nat), i ≤ xs.length → xs.length - i = d → d < k → policy_has.l0 k s xs (xs.length : Int) i = some (hasL (xs.drop i) s) := by
  induction d with
  | zero =>
    intro k i hi hd hk
    obtain ⟨k, rfl⟩ : ∃ n, k = n + 1 := ⟨k - 1, by omega⟩
    simp only [policy_has.l0]
    rw [if_neg (by omega), List.drop_of_length_le (by omega)]
    rfl
  | succ d ih =>
    intro k i hi hd hk
    obtain ⟨k, rfl⟩ : ∃ n, k = n + 1 := ⟨k - 1, by omega⟩
    simp only [policy_has.l0]
    rw [if_pos (by omega), if_pos (by omega), if_pos (by omega), w1 i (by omega), ih k (i + 1) (by omega) (by omega) (by omega), rdOf_get xs i (by omega), drop_at xs i (by omega)]
    simp only [hasL, List.any_cons]
    split <;> simp_all
theorem has_eq' (s : ByteArray) (xs : List ByteArray) (k : Nat) (hx : xs.length ≤ 2000000) (hk : xs.length < k) : policy_has.f k xs s = some (hasL xs s) := has_l0 s xs hx xs.length k 0 (by omega) (by omega) hk
theorem rhas_l0 (s : ByteArray) (xs : List ByteArray) (hx : xs.length ≤ 2000000) (d : Nat) : ∀ (k i : Nat), i ≤ xs.length → xs.length - i = d → d < k → messuageref20_Has.l0 k xs s i = some (hasL (xs.drop i) s) := by
  induction d with
  | zero =>
    intro k i hi hd hk
    obtain ⟨k, rfl⟩ : ∃ n, k = n + 1 := ⟨k - 1, by omega⟩
    simp only [messuageref20_Has.l0]
    rw [if_neg (by omega), List.drop_of_length_le (by omega)]
    rfl
  | succ d ih =>
    intro k i hi hd hk
    obtain ⟨k, rfl⟩ : ∃ n, k = n + 1 := ⟨k - 1, by omega⟩
    simp only [messuageref20_Has.l0]
    rw [if_pos (by omega), if_pos (by omega), w1 i (by omega), ih k (i + 1) (by omega) (by omega) (by omega), rdOf_get xs i (by omega), drop_at xs i (by omega)]
    simp only [hasL, List.any_cons]
    split <;> simp_all
theorem rhas_eq' (s : ByteArray) (xs : List ByteArray) (k : Nat) (hx : xs.length ≤ 2000000) (hk : xs.length < k) : messuageref20_Has.f k xs s = some (hasL xs s) := rhas_l0 s xs hx xs.length k 0 (by omega) (by omega) hk

def thr (l : S48) (name : ByteArray) : Bool := l.f2 || hasL l.f1 name
theorem through_eq (l : S48) (name : ByteArray) (k : Nat) (hx : l.f1.length ≤ 2000000) (hk : l.f1.length < k) : policy_Through.f k l.f0 l.f1 l.f2 name = some (thr l name) := by
  unfold policy_Through.f thr
  rw [has_eq' name l.f1 k hx hk]
  cases l.f2 <;> rfl
theorem rd48_get (xs : List S48) (i : Nat) (h : i < xs.length) : rd_T48 xs (i : Int) = xs[i] := by
  unfold rd_T48
  simp [List.getD_eq_getElem?_getD, h]
def linkL (tgt name : ByteArray) : List S48 → Nat → Int
  | [], _ => -1
  | l :: r, i => if l.f0.toList = tgt.toList ∧ thr l name = true then (i : Int) else linkL tgt name r (i + 1)

theorem link_l0 (tgt name : ByteArray) (xs : List S48) (hx : xs.length ≤ 2000000) (hl : ∀ l ∈ xs, l.f1.length ≤ 60) (d : Nat) : ∀ (k i : Nat), i ≤ xs.length → xs.length - i = d → 2 * d + 70 < k → policy_Link.l0 k tgt name xs (xs.length : Int) i = some (linkL tgt name (xs.drop i) i) := by
  induction d with
  | zero =>
    intro k i hi hd hk
    obtain ⟨k, rfl⟩ : ∃ n, k = n + 1 := ⟨k - 1, by omega⟩
    simp only [policy_Link.l0]
    rw [if_neg (by omega), List.drop_of_length_le (by omega)]
    rfl
  | succ d ih =>
    intro k i hi hd hk
    obtain ⟨k, rfl⟩ : ∃ n, k = n + 2 := ⟨k - 2, by omega⟩
    have hb := hl xs[i] (List.getElem_mem _)
    simp only [policy_Link.l0, policy_Link.j1]
    rw [if_pos (by omega), if_pos (by omega), if_pos (by omega), w1 i (by omega), ih k (i + 1) (by omega) (by omega) (by omega), rd48_get xs i (by omega), drop_at xs i (by omega), through_eq _ name (k + 1) (by omega) (by omega)]
    simp only [linkL, Option.bind_some]
    by_cases h1 : xs[i].f0.toList = tgt.toList
    · cases h2 : thr xs[i] name <;> simp [h1]
    · simp [h1]
theorem link_eq (tgt name : ByteArray) (xs : List S48) (k : Nat) (hx : xs.length ≤ 2000000) (hl : ∀ l ∈ xs, l.f1.length ≤ 60) (hk : 2 * xs.length + 70 < k) (a0 a1 a2 a3 a4 a5) : policy_Link.f k a0 a1 a2 a3 a4 a5 xs tgt name = some (linkL tgt name xs 0) :=
  link_l0 tgt name xs hx hl xs.length k 0 (by omega) (by omega) hk
theorem rlink_l0 (tgt name : ByteArray) (xs : List S48) (hx : xs.length ≤ 2000000) (hl : ∀ l ∈ xs, l.f1.length ≤ 60) (a0 a1 a2 a3 a4 a5) (d : Nat) : ∀ (k i : Nat), i ≤ xs.length → xs.length - i = d → 2 * d + 70 < k → messuageref20_Link.l0 k tgt name i a0 a1 a2 a3 a4 a5 xs = some (linkL tgt name (xs.drop i) i) := by
  induction d with
  | zero =>
    intro k i hi hd hk
    obtain ⟨k, rfl⟩ : ∃ n, k = n + 1 := ⟨k - 1, by omega⟩
    simp only [messuageref20_Link.l0]
    rw [if_neg (by omega), List.drop_of_length_le (by omega)]
    rfl
  | succ d ih =>
    intro k i hi hd hk
    obtain ⟨k, rfl⟩ : ∃ n, k = n + 2 := ⟨k - 2, by omega⟩
    have hb := hl xs[i] (List.getElem_mem _)
    simp only [messuageref20_Link.l0, messuageref20_Link.j1]
    rw [if_pos (by omega), if_pos (by omega), w1 i (by omega), ih k (i + 1) (by omega) (by omega) (by omega), rd48_get xs i (by omega), drop_at xs i (by omega), rhas_eq' name _ (k + 1) (by omega) (by omega)]
    simp only [linkL, Option.bind_some, thr]
    by_cases h1 : xs[i].f0.toList = tgt.toList
    · by_cases h2 : xs[i].f2 = true <;> by_cases h3 : hasL xs[i].f1 name = true <;> simp [h1, h2, h3]
    · simp [h1]
theorem rlink_eq (tgt name : ByteArray) (xs : List S48) (k : Nat) (hx : xs.length ≤ 2000000) (hl : ∀ l ∈ xs, l.f1.length ≤ 60) (hk : 2 * xs.length + 70 < k) (a0 a1 a2 a3 a4 a5) : messuageref20_Link.f k a0 a1 a2 a3 a4 a5 xs tgt name = some (linkL tgt name xs 0) :=
  rlink_l0 tgt name xs hx hl a0 a1 a2 a3 a4 a5 xs.length k 0 (by omega) (by omega) hk

theorem allowed_eq (l5 : List ByteArray) (name : ByteArray) (k : Nat) (hx : l5.length ≤ 2000000) (hk : l5.length < k) (a0 a1 a2 a3 a4 a6) : policy_Allowed.f k a0 a1 a2 a3 a4 l5 a6 name = some (if l5.length = 0 then true else hasL l5 name) := by
  unfold policy_Allowed.f
  rw [has_eq' name l5 k hx hk]
  by_cases h : l5.length = 0
  · rw [if_pos (by omega), if_pos h]
  · rw [if_neg (by omega), if_neg h]; rfl
theorem rallowed_eq (l5 : List ByteArray) (name : ByteArray) (k : Nat) (hx : l5.length ≤ 2000000) (hk : l5.length < k) (a0 a1 a2 a3 a4 a6) : messuageref20_Allowed.f k a0 a1 a2 a3 a4 l5 a6 name = some (if l5.length = 0 then true else hasL l5 name) := by
  unfold messuageref20_Allowed.f
  rw [rhas_eq' name l5 k hx hk]
  by_cases h : l5.length = 0
  · rw [if_pos (by omega), if_pos h]
  · rw [if_neg (by omega), if_neg h]; rfl

def greyL (lv : Int) (gr : List ByteArray) (gt : Int) (gd real : ByteArray) : Bool := decide (lv < gt) && !decide (gd.toList = []) && hasL gr (mkB (base real.data.toList)) && pChild real.data.toList gd.data.toList
theorem grey_eq (a0 lv : Int) (gr : List ByteArray) (gt : Int) (gd : ByteArray) (a5 a6 : Int) (real : ByteArray) (k : Nat) (hg : gr.length ≤ 2000000) (hk : gr.length < k) (hr : real.size + 5 < k) (h1 : real.size ≤ 2000000) (h2 : gd.size ≤ 2000000) :
    policy_Grey.f k a0 lv gr gt gd a5 a6 real = some (greyL lv gr gt gd real) := by
  unfold policy_Grey.f greyL
  rw [base_eq real k (by omega) (by omega), Option.bind_some, has_eq' _ gr k hg hk, Option.bind_some, child_eq' real gd k hr h1 h2, Option.bind_some]
  by_cases h : lv < gt
  · by_cases h3 : gd.toList = []
    · simp [h, h3]
    · cases hasL gr (mkB (base real.data.toList)) <;> simp [h, h3]
  · simp [h]
theorem rgrey_eq (a0 lv : Int) (gr : List ByteArray) (gt : Int) (gd : ByteArray) (a5 a6 : Int) (real : ByteArray) (k : Nat) (hg : gr.length ≤ 2000000) (hk : gr.length < k) (hr : 2 * real.size + 2 * gd.size + 6 < k) (h1 : real.size ≤ 2000000) (h2 : gd.size ≤ 2000000) :
    messuageref20_Grey.f k a0 lv gr gt gd a5 a6 real = some (greyL lv gr gt gd real) := by
  unfold messuageref20_Grey.f greyL
  rw [rbase_eq real k (by omega) (by omega), Option.bind_some, rhas_eq' _ gr k hg hk, Option.bind_some, rchild_eq' real gd k hr h1 h2, Option.bind_some]
  by_cases h : lv < gt
  · by_cases h3 : gd.toList = []
    · simp [h, h3]
    · cases hasL gr (mkB (base real.data.toList)) <;> cases pChild real.data.toList gd.data.toList <;> simp [h, h3]
  · simp [h]

/-- A text's part in what a namespace may have. -/
def srch (real : ByteArray) (xs : List ByteArray) : Bool := xs.any fun x => pChild real.data.toList x.data.toList
def perm (real : ByteArray) (xs : List ByteArray) : Bool := xs.any fun x => pUnder real.data.toList x.data.toList
def accL (iso : Bool) (l3 l4 : List ByteArray) (first grey : Bool) (real : ByteArray) : Bool := !iso || srch real l3 || perm real l4 || (first && grey)

section acc
variable (real : ByteArray) (hr : real.size ≤ 4096) (lv : Int) (gr : List ByteArray) (gt : Int) (gd : ByteArray) (hg : gr.length ≤ 2000000) (hgd : gd.size ≤ 2000000) (b0 b5 b6 : Int)
include hr hg hgd

theorem acc_l1 (first : Bool) (xs : List ByteArray) (hx : xs.length ≤ 70) (hl : ∀ x ∈ xs, x.size ≤ 2000000) (d : Nat) : ∀ (k i : Nat), i ≤ xs.length → xs.length - i = d → d + 6000000 < k →
    policy_Accessible.l1 k first real xs (xs.length : Int) i b0 lv gr gt gd b5 b6 = some (perm real (xs.drop i) || (first && greyL lv gr gt gd real)) := by
  induction d with
  | zero =>
    intro k i hi hd hk
    obtain ⟨k, rfl⟩ : ∃ n, k = n + 1 := ⟨k - 1, by omega⟩
    simp only [policy_Accessible.l1]
    rw [if_neg (by omega), List.drop_of_length_le (by omega), grey_eq b0 lv gr gt gd b5 b6 real k hg (by omega) (by omega) (by omega) (by omega)]
    cases first <;> simp [perm]
  | succ d ih =>
    intro k i hi hd hk
    obtain ⟨k, rfl⟩ : ∃ n, k = n + 1 := ⟨k - 1, by omega⟩
    have hb := hl xs[i] (List.getElem_mem _)
    simp only [policy_Accessible.l1]
    rw [if_pos (by omega), if_pos (by omega), if_pos (by omega), w1 i (by omega), ih k (i + 1) (by omega) (by omega) (by omega), rdOf_get xs i (by omega), drop_at xs i (by omega), under_eq' real _ (by omega) (by omega)]
    simp only [perm, List.any_cons, Option.bind_some]
    cases pUnder real.data.toList xs[i].data.toList <;> simp
theorem acc_l0 (first : Bool) (a0 : ByteArray) (a1 a2 : Bool) (a3 : List ByteArray) (l4 a5 : List ByteArray) (a6 : List S48) (h4 : l4.length ≤ 70) (hl4 : ∀ x ∈ l4, x.size ≤ 2000000) (xs : List ByteArray) (hx : xs.length ≤ 70) (hl : ∀ x ∈ xs, x.size ≤ 2000000) (d : Nat) : ∀ (k i : Nat), i ≤ xs.length → xs.length - i = d → d + 6000100 < k →
    policy_Accessible.l0 k first real xs (xs.length : Int) i a0 a1 a2 a3 l4 a5 a6 b0 lv gr gt gd b5 b6 = some (srch real (xs.drop i) || (perm real l4 || (first && greyL lv gr gt gd real))) := by
  induction d with
  | zero =>
    intro k i hi hd hk
    obtain ⟨k, rfl⟩ : ∃ n, k = n + 1 := ⟨k - 1, by omega⟩
    simp only [policy_Accessible.l0]
    have hz := acc_l1 real hr lv gr gt gd hg hgd b0 b5 b6 first l4 h4 hl4 l4.length k 0 (by omega) (by omega) (by omega)
    rw [if_neg (by omega), List.drop_of_length_le (by omega)]
    exact hz.trans (by simp [srch])
  | succ d ih =>
    intro k i hi hd hk
    obtain ⟨k, rfl⟩ : ∃ n, k = n + 1 := ⟨k - 1, by omega⟩
    have hb := hl xs[i] (List.getElem_mem _)
    simp only [policy_Accessible.l0]
    rw [if_pos (by omega), if_pos (by omega), if_pos (by omega), w1 i (by omega), ih k (i + 1) (by omega) (by omega) (by omega), rdOf_get xs i (by omega), drop_at xs i (by omega), child_eq' real _ k (by omega) (by omega) (by omega)]
    simp only [srch, List.any_cons, Option.bind_some]
    cases pChild real.data.toList xs[i].data.toList <;> simp
theorem acc_eq (first : Bool) (a0 : ByteArray) (iso a2 : Bool) (l3 l4 a5 : List ByteArray) (a6 : List S48) (h3 : l3.length ≤ 70) (hl3 : ∀ x ∈ l3, x.size ≤ 2000000) (h4 : l4.length ≤ 70) (hl4 : ∀ x ∈ l4, x.size ≤ 2000000) (k : Nat) (hk : 6000200 < k) :
    policy_Accessible.f k a0 iso a2 l3 l4 a5 a6 b0 lv gr gt gd b5 b6 first real = some (accL iso l3 l4 first (greyL lv gr gt gd real) real) := by
  unfold policy_Accessible.f accL
  cases iso
  · rfl
  · have hz := acc_l0 real hr lv gr gt gd hg hgd b0 b5 b6 first a0 true a2 l3 l4 a5 a6 h4 hl4 l3 h3 hl3 l3.length k 0 (by omega) (by omega) (by omega)
    rw [if_pos rfl]
    exact hz.trans (by simp [Bool.or_assoc])

omit hg hgd in
theorem racc_l1 (a0 : ByteArray) (a1 a2 : Bool) (a3 : List ByteArray) (a5 : List ByteArray) (a6 : List S48) (xs : List ByteArray) (hx : xs.length ≤ 60) (hl : ∀ x ∈ xs, x.size ≤ 2000000) (d : Nat) : ∀ (k i : Nat) (ok : Bool), i ≤ xs.length → xs.length - i = d → d + 6000000 < k →
    messuageref20_Accessible.l1 k real ok i a0 a1 a2 a3 xs a5 a6 = some (ok || perm real (xs.drop i)) := by
  induction d with
  | zero =>
    intro k i ok hi hd hk
    obtain ⟨k, rfl⟩ : ∃ n, k = n + 1 := ⟨k - 1, by omega⟩
    simp only [messuageref20_Accessible.l1]
    rw [if_neg (by omega), List.drop_of_length_le (by omega)]
    simp [perm]
  | succ d ih =>
    intro k i ok hi hd hk
    obtain ⟨k, rfl⟩ : ∃ n, k = n + 1 := ⟨k - 1, by omega⟩
    have hb := hl xs[i] (List.getElem_mem _)
    simp only [messuageref20_Accessible.l1]
    rw [if_pos (by omega), w1 i (by omega)]
    cases ok
    · rw [if_neg (by decide), if_pos (by omega), rdOf_get xs i (by omega), drop_at xs i (by omega), runder_eq' real _ k (by omega) (by omega) (by omega), Option.bind_some, ih k (i + 1) _ (by omega) (by omega) (by omega)]
      simp only [perm, List.any_cons, Bool.false_or]
    · rw [if_pos rfl, ih k (i + 1) _ (by omega) (by omega) (by omega)]
      simp
omit hg hgd in
theorem racc_l0 (a0 : ByteArray) (a1 a2 : Bool) (l4 : List ByteArray) (a5 : List ByteArray) (a6 : List S48) (h4 : l4.length ≤ 60) (hl4 : ∀ x ∈ l4, x.size ≤ 2000000) (xs : List ByteArray) (hx : xs.length ≤ 60) (hl : ∀ x ∈ xs, x.size ≤ 2000000) (d : Nat) : ∀ (k i : Nat) (ok : Bool), i ≤ xs.length → xs.length - i = d → d + 6000100 < k →
    messuageref20_Accessible.l0 k real ok i a0 a1 a2 xs l4 a5 a6 = some (ok || srch real (xs.drop i) || perm real l4) := by
  induction d with
  | zero =>
    intro k i ok hi hd hk
    obtain ⟨k, rfl⟩ : ∃ n, k = n + 1 := ⟨k - 1, by omega⟩
    simp only [messuageref20_Accessible.l0]
    have hz := racc_l1 real hr a0 a1 a2 xs a5 a6 l4 h4 hl4 l4.length k 0 ok (by omega) (by omega) (by omega)
    rw [if_neg (by omega), List.drop_of_length_le (by omega)]
    exact hz.trans (by simp [srch])
  | succ d ih =>
    intro k i ok hi hd hk
    obtain ⟨k, rfl⟩ : ∃ n, k = n + 1 := ⟨k - 1, by omega⟩
    have hb := hl xs[i] (List.getElem_mem _)
    simp only [messuageref20_Accessible.l0]
    rw [if_pos (by omega), w1 i (by omega)]
    cases ok
    · rw [if_neg (by decide), if_pos (by omega), rdOf_get xs i (by omega), drop_at xs i (by omega), rchild_eq' real _ k (by omega) (by omega) (by omega), Option.bind_some, ih k (i + 1) _ (by omega) (by omega) (by omega)]
      simp only [srch, List.any_cons, Bool.false_or]
    · rw [if_pos rfl, ih k (i + 1) _ (by omega) (by omega) (by omega)]
      simp
theorem racc_eq (first : Bool) (a0 : ByteArray) (iso a2 : Bool) (l3 l4 a5 : List ByteArray) (a6 : List S48) (h3 : l3.length ≤ 60) (hl3 : ∀ x ∈ l3, x.size ≤ 2000000) (h4 : l4.length ≤ 60) (hl4 : ∀ x ∈ l4, x.size ≤ 2000000) (k : Nat) (hk : 6000300 < k) :
    messuageref20_Accessible.f k a0 iso a2 l3 l4 a5 a6 b0 lv gr gt gd b5 b6 first real = some (accL iso l3 l4 first (greyL lv gr gt gd real) real) := by
  obtain ⟨k, rfl⟩ : ∃ n, k = n + 1 := ⟨k - 1, by omega⟩
  have hz := fun ok => racc_l0 real hr a0 iso a2 l4 a5 a6 h4 hl4 l3 h3 hl3 l3.length k 0 ok (by omega) (by omega) (by omega)
  unfold messuageref20_Accessible.f accL
  simp only [messuageref20_Accessible.j0]
  rw [rgrey_eq b0 lv gr gt gd b5 b6 real (k + 1) hg (by omega) (by omega) (by omega) (by omega)]
  simp only [Option.bind_some]
  have z : ∀ ok, messuageref20_Accessible.l0 k real ok 0 a0 iso a2 l3 l4 a5 a6 = some (ok || srch real (List.drop 0 l3) || perm real l4) := fun ok => hz ok
  simp only [z, List.drop_zero]
  cases iso <;> cases first <;> simp
  cases greyL lv gr gt gd real <;> simp
end acc

theorem rd41_one (x : S41) : rd_T41 [x] 0 = x := by unfold rd_T41; simp
theorem great19_l1 (x : S41) (hx : x.f6.length ≤ 40) (d : Nat) : ∀ (k i : Nat), i ≤ x.f6.length → x.f6.length - i = d → d + 3 < k →
    ∃ b, messuagelaw19_Great.l1 k [x] 0 i = some b ∧ (b = false → ∀ l ∈ x.f6.drop i, l.f1.length ≤ 60) := by
  induction d with
  | zero =>
    intro k i hi hd hk
    obtain ⟨k, rfl⟩ : ∃ n, k = n + 2 := ⟨k - 2, by omega⟩
    refine ⟨false, ?_, fun _ l hl => ?_⟩
    · simp only [messuagelaw19_Great.l1, rd41_one]
      rw [if_pos (by omega), if_pos (by simp), if_neg (by omega)]
      simp only [messuagelaw19_Great.l0]
      exact if_neg (by rw [show wrap64 (0 + 1) = 1 from w1 0 (by omega)]; simp)
    · rw [List.drop_of_length_le (by omega)] at hl; cases hl
  | succ d ih =>
    intro k i hi hd hk
    obtain ⟨k, rfl⟩ : ∃ n, k = n + 1 := ⟨k - 1, by omega⟩
    obtain ⟨b, hb, hbl⟩ := ih k (i + 1) (by omega) (by omega) (by omega)
    by_cases h : (x.f6[i].f1.length : Int) > 60
    · refine ⟨true, ?_, fun h => by cases h⟩
      simp only [messuagelaw19_Great.l1, rd41_one]
      rw [if_pos (by omega), if_pos (by simp), if_pos (by omega), if_pos (by omega), rd48_get _ i (by omega), if_pos h]
    · refine ⟨b, ?_, fun hf l hl => ?_⟩
      · simp only [messuagelaw19_Great.l1, rd41_one]
        rw [if_pos (by omega), if_pos (by simp), if_pos (by omega), if_pos (by omega), rd48_get _ i (by omega), if_neg h, w1 i (by omega)]
        exact hb
      · rw [drop_at _ i (by omega)] at hl
        rcases List.mem_cons.1 hl with rfl | hl
        · omega
        · exact hbl hf l hl
theorem great19_eq (x : S41) (k : Nat) (hk : 100 < k) : ∃ b, messuagelaw19_Great.f k [x] = some b ∧ (b = false → x.f3.length ≤ 60 ∧ x.f4.length ≤ 60 ∧ x.f5.length ≤ 60 ∧ x.f6.length ≤ 40 ∧ ∀ l ∈ x.f6, l.f1.length ≤ 60) := by
  obtain ⟨k, rfl⟩ : ∃ n, k = n + 2 := ⟨k - 2, by omega⟩
  unfold messuagelaw19_Great.f
  rw [if_neg (by simp)]
  simp only [messuagelaw19_Great.l0, messuagelaw19_Great.j1, rd41_one]
  rw [if_pos (by simp), if_pos (by omega)]
  by_cases h3 : (x.f3.length : Int) > 60
  · exact ⟨true, by rw [if_pos h3]; rfl, fun h => by cases h⟩
  by_cases h4 : (x.f4.length : Int) > 60
  · exact ⟨true, by rw [if_neg h3, if_pos h4]; rfl, fun h => by cases h⟩
  by_cases h5 : (x.f5.length : Int) > 60
  · exact ⟨true, by rw [if_neg h3, if_neg h4, if_pos h5]; rfl, fun h => by cases h⟩
  by_cases h6 : (x.f6.length : Int) > 40
  · exact ⟨true, by rw [if_neg h3, if_neg h4, if_neg h5, decide_eq_true h6]; rfl, fun h => by cases h⟩
  obtain ⟨b, hb, hbl⟩ := great19_l1 x (by omega) x.f6.length k 0 (by omega) (by omega) (by omega)
  refine ⟨b, ?_, fun hf => ⟨by omega, by omega, by omega, by omega, by simpa using hbl hf⟩⟩
  rw [if_neg h3, if_neg h4, if_neg h5, decide_eq_false h6]
  exact hb
theorem great_eq (a0 : ByteArray) (a1 a2 : Bool) (l3 l4 l5 : List ByteArray) (l6 : List S48) (a7 a8 : Int) (l9 : List ByteArray) (a10 : Int) (a11 : ByteArray) (a12 a13 : Int) (a14 : Bool) (a15 a16 a17 : ByteArray) (k : Nat) (hk : 100 < k) :
    ∃ b, messuagelaw20_great.f k a0 a1 a2 l3 l4 l5 l6 a7 a8 l9 a10 a11 a12 a13 a14 a15 a16 a17 = some b ∧ (b = false → l3.length ≤ 60 ∧ l4.length ≤ 60 ∧ l5.length ≤ 60 ∧ l6.length ≤ 40 ∧ (∀ l ∈ l6, l.f1.length ≤ 60) ∧ a15.size ≤ 4096 ∧ l9.length ≤ 100 ∧ a11.size ≤ 4096) := by
  obtain ⟨b, hb, hbl⟩ := great19_eq ⟨a0, a1, a2, l3, l4, l5, l6⟩ k hk
  unfold messuagelaw20_great.f
  rw [hb, Option.bind_some]
  cases b
  · obtain ⟨h3, h4, h5, h6, h7⟩ := hbl rfl
    rw [if_neg (by decide)]
    by_cases c1 : (a15.size : Int) > 4096
    · exact ⟨true, by rw [if_pos c1], fun h => by cases h⟩
    by_cases c2 : (l9.length : Int) > 100
    · exact ⟨true, by rw [if_neg c1, if_pos c2], fun h => by cases h⟩
    refine ⟨decide ((a11.size : Int) > 4096), by rw [if_neg c1, if_neg c2], fun h => ⟨h3, h4, h5, h6, h7, by omega, by omega, ?_⟩⟩
    have := of_decide_eq_false h
    omega
  · exact ⟨true, rfl, fun h => by cases h⟩
end Go.Proofs.YtbkhkdadipigfaaDoor.QAskEq
