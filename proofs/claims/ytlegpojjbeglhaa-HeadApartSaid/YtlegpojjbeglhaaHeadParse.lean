/- What head.Parse tells: with an error no parts; else parts that lie apart, in order, within the file. No condition. -/
import Derived.Test.YtlegpojjbeglhaaHeadFacts
import Derived.Test.YtlegpojjbeglhaaPx7
namespace Go.Proofs.Ytlegpojjbeglhaa.HeadParse
open Go.RowKit Go.Proofs.Ytlegpojjbeglhaa.P Go.Proofs.Ytlegpojjbeglhaa.HeadPure Go.Proofs.Ytlegpojjbeglhaa.HeadFacts Go.Proofs.YtlegpojjbeglhaaW.PrintWords Go.Proofs.YtlegpojjbeglhaaW.PrintLast Go.Proofs.YtlegpojjbeglhaaW.PrintMore

/-- A row as it's read: all its numbers are numbers of 64 bits. -/
def Row (p : S32) : Prop := 0 ≤ p.f0 ∧ 0 ≤ p.f1 ∧ (0 ≤ p.f2 ∧ p.f2 < 18446744073709551616) ∧ (0 ≤ p.f3 ∧ p.f3 < 18446744073709551616) ∧ (0 ≤ p.f4 ∧ p.f4 < 18446744073709551616) ∧ (0 ≤ p.f5 ∧ p.f5 < 18446744073709551616)
/-- Where a part ends. -/
def endI (p : S32) : Int := p.f3 + (p.f5 + 255) / 256 * 256
/-- A part that is right by itself. -/
def Good (L : Int) (p : S32) : Prop := p.f3 % 256 = 0 ∧ 0 ≤ p.f3 ∧ p.f3 ≤ 16384 ∧ 0 < p.f5 ∧ p.f5 ≤ 16384 ∧ 0 ≤ p.f4 ∧ p.f4 ≤ p.f5 ∧ 0 ≤ p.f2 ∧ p.f2 + p.f4 ≤ L ∧ endI p ≤ 16384
/-- Parts that lie one behind the other. -/
def Chain (L : Int) (l : List S32) : Prop := ∀ i : Nat, i < l.length → Good L (rd_T32 l i) ∧ (i = 0 → (rd_T32 l i).f3 = 0) ∧ (0 < i → endI (rd_T32 l ((i : Int) - 1)) ≤ (rd_T32 l i).f3)
theorem rd_lt (l : List S32) (x : S32) (i : Int) (h0 : 0 ≤ i) (h : i < l.length) : rd_T32 (l ++ [x]) i = rd_T32 l i := by
  unfold rd_T32
  rw [List.getD_eq_getElem?_getD, List.getD_eq_getElem?_getD, List.getElem?_append_left (by omega)]
theorem rd_last (l : List S32) (x : S32) : rd_T32 (l ++ [x]) (l.length : Int) = x := by
  unfold rd_T32
  rw [List.getD_eq_getElem?_getD, List.getElem?_append_right (by omega)]
  simp
theorem Chain.snoc {L : Int} {l : List S32} {p : S32} (h : Chain L l) (hg : Good L p) (h0 : l = [] → p.f3 = 0) (h1 : 0 < l.length → endI (rd_T32 l ((l.length : Int) - 1)) ≤ p.f3) : Chain L (l ++ [p]) := by
  intro i hi
  rw [List.length_append, List.length_singleton] at hi
  by_cases hc : i < l.length
  · rw [rd_lt l p i (by omega) (by omega)]
    have := h i hc
    refine ⟨this.1, this.2.1, fun hp => ?_⟩
    rw [rd_lt l p _ (by omega) (by omega)]
    exact this.2.2 hp
  · obtain rfl : i = l.length := by omega
    rw [rd_last]
    refine ⟨hg, fun hz => h0 (List.eq_nil_of_length_eq_zero hz), fun hp => ?_⟩
    rw [rd_lt l p _ (by omega) (by omega)]
    exact h1 hp
theorem end_at (p : S32) (h3 : 0 ≤ p.f3) (h3' : p.f3 ≤ 16384) (h5 : 0 ≤ p.f5) (h5' : p.f5 ≤ 16384) : head_End.f p.f0 p.f1 p.f2 p.f3 p.f4 p.f5 p.f6 = some (endI p) := by
  unfold head_End.f num_Pages.f endI mn
  rw [Int.tdiv_eq_ediv_of_nonneg h5, Int.tmod_eq_emod_of_nonneg h5, w64 (p.f5 / 256) (by omega) (by omega)]
  simp only [Option.bind_some]
  split
  · rw [w64 (p.f5 / 256 + 1) (by omega) (by omega), w64 ((p.f5 / 256 + 1) * 256) (by omega) (by omega), w64 _ (by omega) (by omega)]
    congr 1
    omega
  · rw [w64 (p.f5 / 256 + p.f5 % 256) (by omega) (by omega), w64 ((p.f5 / 256 + p.f5 % 256) * 256) (by omega) (by omega), w64 _ (by omega) (by omega)]
    congr 1
    omega
theorem inside0 (x y L : Int) (hx : 0 ≤ x) (hx2 : x < 18446744073709551616) (hy : 0 ≤ y) (hL : 0 ≤ L) (hL2 : L ≤ 4611686018427387904) : num_Inside.f x y 0 L = some (decide (x ≤ L ∧ x + y ≤ L)) := by
  unfold num_Inside.f num_Sub.f
  rw [if_neg (by omega), w64 (x - 0) (by omega) (by omega)]
  simp only [Option.bind_some, if_true, Int.sub_zero]
  by_cases h : x ≤ L
  · rw [if_pos h, w64 (L - x) (by omega) (by omega)]
    congr 1
    exact decide_eq_decide.2 ⟨fun _ => by omega, fun _ => by omega⟩
  · rw [if_neg h]
    congr 1
    exact (decide_eq_false (by omega)).symm
theorem inside_some (x y z s : Int) : ∃ b, num_Inside.f x y z s = some b := by
  unfold num_Inside.f num_Sub.f
  split
  · exact ⟨_, rfl⟩
  · simp only [Option.bind_some, if_true]
    split <;> exact ⟨_, rfl⟩
theorem load_at (k : Nat) (p : S32) (hp : Row p) (l : List S32) (hl : l.length ≤ 1000) (L : Int) (hL : 0 ≤ L) (hL2 : L ≤ 4611686018427387904) (hc : Chain L l) (hk : 5 ≤ k) :
    ∃ b, head_load.f k p.f0 p.f1 p.f2 p.f3 p.f4 p.f5 p.f6 l L = some b ∧ (b = true → Chain L (l ++ [p])) := by
  obtain ⟨k, rfl⟩ : ∃ m, k = m + 3 := ⟨k - 3, by omega⟩
  obtain ⟨p0, p1, ⟨p2, p2'⟩, ⟨p3, p3'⟩, ⟨p4, p4'⟩, ⟨p5, p5'⟩⟩ := hp
  have bad2 : ∀ x7, head_load.j2 (k + 1) l x7 true p.f0 p.f1 p.f2 p.f3 p.f4 p.f5 p.f6 = some false := by intro x7; simp only [head_load.j2, if_true]
  have bad1 : ∀ x7, head_load.j1 (k + 2) l L x7 false p.f0 p.f1 p.f2 p.f3 p.f4 p.f5 p.f6 = some false := by intro x7; simp only [head_load.j1, Bool.false_eq_true, if_false, bad2]
  have key : ∀ x7, (0 < l.length → endI (rd_T32 l ((l.length : Int) - 1)) = x7) → ∃ b, head_load.j0 (k + 3) l L x7 p.f0 p.f1 p.f2 p.f3 p.f4 p.f5 p.f6 = some b ∧ (b = true → Chain L (l ++ [p])) := by
    intro x7 h7
    simp only [head_load.j0]
    rw [Int.tmod_eq_emod_of_nonneg p3, Int.tmod_eq_emod_of_nonneg p2]
    by_cases c1 : p.f3 % 256 = 0
    case neg => rw [if_neg c1, bad1]; exact ⟨false, rfl, by simp⟩
    rw [if_pos c1]
    by_cases c2 : p.f2 % 256 = 0
    case neg => rw [show (p.f2 % 256 == 0) = false by simp [c2], bad1]; exact ⟨false, rfl, by simp⟩
    rw [show (p.f2 % 256 == 0) = true by simp [c2]]
    simp only [head_load.j1, if_true]
    by_cases c3 : p.f1 > 7
    · rw [if_pos c3, bad2]; exact ⟨false, rfl, by simp⟩
    rw [if_neg c3]
    by_cases c4 : p.f5 = 0
    · rw [if_pos c4, bad2]; exact ⟨false, rfl, by simp⟩
    rw [if_neg c4]
    by_cases c5 : p.f4 > p.f5
    · rw [if_pos c5, bad2]; exact ⟨false, rfl, by simp⟩
    rw [if_neg c5]
    by_cases c6 : p.f5 > 16384
    · rw [if_pos c6, bad2]; exact ⟨false, rfl, by simp⟩
    rw [if_neg c6, inside0 _ _ _ p2 p2' p4 hL hL2]
    simp only [Option.bind_some]
    by_cases c7 : p.f2 ≤ L ∧ p.f2 + p.f4 ≤ L
    case neg => rw [show (!decide (p.f2 ≤ L ∧ p.f2 + p.f4 ≤ L)) = true by simp [c7], bad2]; exact ⟨false, rfl, by simp⟩
    rw [show (!decide (p.f2 ≤ L ∧ p.f2 + p.f4 ≤ L)) = false by simp [c7]]
    simp only [head_load.j2, Bool.false_eq_true, if_false]
    have fin : ((l.length : Int) = 0 → p.f3 = 0) → ∃ b, (if p.f3 < x7 then some false else if p.f3 > 16384 then some false else (head_End.f p.f0 p.f1 p.f2 p.f3 p.f4 p.f5 p.f6).bind fun t157 => some (decide (t157 ≤ 16384))) = some b ∧ (b = true → Chain L (l ++ [p])) := by
      intro hz
      by_cases c8 : p.f3 < x7
      · rw [if_pos c8]; exact ⟨false, rfl, by simp⟩
      rw [if_neg c8]
      by_cases c9 : p.f3 > 16384
      · rw [if_pos c9]; exact ⟨false, rfl, by simp⟩
      rw [if_neg c9, end_at p p3 (by omega) p5 (by omega)]
      refine ⟨_, rfl, fun he => ?_⟩
      have he := of_decide_eq_true he
      exact hc.snoc ⟨c1, p3, by omega, by omega, by omega, p4, by omega, p2, c7.2, he⟩ (fun h => hz (by rw [h]; rfl)) (fun h => by rw [h7 h]; omega)
    by_cases c8 : (l.length : Int) = 0
    · rw [if_pos c8]
      by_cases c9 : p.f3 = 0
      · rw [if_pos c9]
        exact fin fun _ => c9
      · rw [if_neg c9]; exact ⟨false, rfl, by simp⟩
    · rw [if_neg c8]
      exact fin fun h => absurd h c8
  unfold head_load.f
  by_cases h : (l.length : Int) > 0
  · rw [if_pos h, w64i _ (by omega) (by omega), if_pos (by omega), if_pos (by omega)]
    have hg := (hc (l.length - 1) (by omega)).1
    rw [show ((l.length - 1 : Nat) : Int) = (l.length : Int) - 1 by omega] at hg
    rw [end_at _ hg.2.1 hg.2.2.1 (by have := hg.2.2.2.1; omega) hg.2.2.2.2.1]
    exact key _ fun _ => rfl
  · rw [if_neg h]
    exact key _ fun h' => absurd h' (by omega)
theorem off_some (a b c : Int) (l : List S32) (hl : l.length ≤ 1000) : ∀ (d i k : Nat), l.length - i = d → i ≤ l.length → d < k → ∃ r, head_Off.l0 k a b l l.length i = some r := by
  intro d
  induction d with
  | zero =>
    intro i k hd hi hk
    obtain ⟨k, rfl⟩ : ∃ m, k = m + 1 := ⟨k - 1, by omega⟩
    simp only [head_Off.l0]
    rw [if_neg (by omega)]
    exact ⟨_, rfl⟩
  | succ d ih =>
    intro i k hd hi hk
    obtain ⟨k, rfl⟩ : ∃ m, k = m + 1 := ⟨k - 1, by omega⟩
    simp only [head_Off.l0]
    rw [if_pos (by omega), if_pos (by omega), if_pos (by omega)]
    obtain ⟨x, hx⟩ := inside_some a b (rd_T32 l i).f3 (rd_T32 l i).f4
    rw [hx, w64i _ (by omega) (by omega)]
    simp only [Option.bind_some]
    split
    · exact ⟨_, rfl⟩
    · exact ih (i + 1) k (by omega) (by omega) (by omega)
theorem end_some (a0 a1 a2 a3 a4 a5 a6 : Int) : ∃ r, head_End.f a0 a1 a2 a3 a4 a5 a6 = some r := ⟨_, rfl⟩
theorem relro_some (c0 c2 c3 c4 c5 c6 c7 c8 c9 c10 c11 c12 c13 c14 c15 : Int) (l : List S32) (hl : l.length ≤ 1000) : ∀ (d i k : Nat), l.length - i = d → i ≤ l.length → d < k →
    ∃ r, head_relro.l0 k l l.length i c0 l c2 c3 c4 c5 c6 c7 c8 c9 c10 c11 c12 c13 c14 c15 = some r := by
  intro d
  induction d with
  | zero =>
    intro i k hd hi hk
    obtain ⟨k, rfl⟩ : ∃ m, k = m + 1 := ⟨k - 1, by omega⟩
    simp only [head_relro.l0]
    rw [if_neg (by omega)]
    exact ⟨_, rfl⟩
  | succ d ih =>
    intro i k hd hi hk
    obtain ⟨k, rfl⟩ : ∃ m, k = m + 1 := ⟨k - 1, by omega⟩
    simp only [head_relro.l0]
    rw [if_pos (by omega), if_pos (by omega), if_pos (by omega)]
    obtain ⟨e, he⟩ := end_some (rd_T32 l i).f0 (rd_T32 l i).f1 (rd_T32 l i).f2 (rd_T32 l i).f3 (rd_T32 l i).f4 (rd_T32 l i).f5 (rd_T32 l i).f6
    rw [he]
    simp only [Option.bind_some]
    obtain ⟨x, hx⟩ := inside_some c12 c14 (rd_T32 l i).f3 (IntKind.u64.wrap (e - (rd_T32 l i).f3))
    rw [hx, w64i _ (by omega) (by omega)]
    simp only [Option.bind_some]
    split
    · exact ⟨_, rfl⟩
    · exact ih (i + 1) k (by omega) (by omega) (by omega)
/-- What is told of a file of so many bytes. -/
def Told (L : Int) (o : Option (Int × (List S32) × Int × Int × Int × Int × Int × Int × Int × Int × Int × Int × Int × Int × Int × Int × Int)) : Prop :=
  ∃ (c0 : Int) (c1 : List S32) (c2 c3 c4 c5 c6 c7 c8 c9 c10 c11 c12 c13 c14 c15 e : Int), o = some (c0, c1, c2, c3, c4, c5, c6, c7, c8, c9, c10, c11, c12, c13, c14, c15, e) ∧ c1.length ≤ 16 ∧
    ((e = 0 ∧ 0 < c1.length ∧ Chain L c1) ∨ (e ≠ 0 ∧ c1 = []))
theorem told_bad (L e : Int) (h : e ≠ 0) : Told L (some (0, ([] : List S32), 0, 0, 0, 0, 0, 0, 0, 0, 0, 0, 0, 0, 0, 0, e)) := ⟨0, [], 0, 0, 0, 0, 0, 0, 0, 0, 0, 0, 0, 0, 0, 0, e, rfl, by simp, .inr ⟨h, rfl⟩⟩
theorem j1_told (L : Int) (k : Nat) (hk : 40 ≤ k) (x8 : Int) (b : Bool) (c0 c2 c3 c4 c5 c6 c7 c8 c9 c10 c11 c12 c13 c14 c15 : Int) (l : List S32) (hl : l.length ≤ 16) (hp : 0 < l.length) (hc : Chain L l) :
    Told L (head_Parse.j1 k x8 b c0 l c2 c3 c4 c5 c6 c7 c8 c9 c10 c11 c12 c13 c14 c15) := by
  obtain ⟨k, rfl⟩ : ∃ m, k = m + 1 := ⟨k - 1, by omega⟩
  simp only [head_Parse.j1]
  split
  · exact told_bad _ _ (by decide)
  split
  · exact told_bad _ _ (by decide)
  split
  · have : ∃ r, head_relro.f k c0 l c2 c3 c4 c5 c6 c7 c8 c9 c10 c11 c12 c13 c14 c15 = some r := by
      obtain ⟨k, rfl⟩ : ∃ m, k = m + 1 := ⟨k - 1, by omega⟩
      have bad : ∃ r, head_relro.j0 (k + 1) true c0 l c2 c3 c4 c5 c6 c7 c8 c9 c10 c11 c12 c13 c14 c15 = some r := ⟨false, by simp [head_relro.j0]⟩
      unfold head_relro.f
      split
      · exact bad
      · cases hb : (Int.tmod c12 256 != 0) with
        | true => exact bad
        | false =>
          simp only [head_relro.j0, Bool.false_eq_true, if_false]
          exact relro_some c0 c2 c3 c4 c5 c6 c7 c8 c9 c10 c11 c12 c13 c14 c15 l (by omega) l.length 0 k (by omega) (by omega) (by omega)
    obtain ⟨r, hr⟩ := this
    rw [hr]
    simp only [Option.bind_some]
    split
    · exact ⟨_, _, _, _, _, _, _, _, _, _, _, _, _, _, _, _, _, rfl, hl, .inl ⟨rfl, hp, hc⟩⟩
    · exact told_bad _ _ (by decide)
  · exact ⟨_, _, _, _, _, _, _, _, _, _, _, _, _, _, _, _, _, rfl, hl, .inl ⟨rfl, hp, hc⟩⟩
theorem l0_told (x : List Int) (hx : x.length ≤ 4611686018427387904) (t : List S32) (ht : t.length ≤ 16) (hr : ∀ i : Nat, i < t.length → Row (rd_T32 t i)) : ∀ (d i k : Nat), t.length - i = d → i ≤ t.length → d + 50 < k →
    ∀ (x7 x8 c0 : Int) (l : List S32) (c2 c3 c4 c5 c6 c7 c8 c9 c10 c11 c12 c13 c14 c15 : Int), l.length ≤ i → Chain x.length l →
    Told x.length (head_Parse.l0 k x x7 x8 t t.length i c0 l c2 c3 c4 c5 c6 c7 c8 c9 c10 c11 c12 c13 c14 c15) := by
  intro d
  induction d with
  | zero =>
    intro i k hd hi hk x7 x8 c0 l c2 c3 c4 c5 c6 c7 c8 c9 c10 c11 c12 c13 c14 c15 hl hc
    obtain ⟨k, rfl⟩ : ∃ m, k = m + 1 := ⟨k - 1, by omega⟩
    simp only [head_Parse.l0]
    rw [if_neg (by omega)]
    by_cases h0 : (l.length : Int) = 0
    · rw [if_pos h0]
      exact told_bad _ _ (by decide)
    rw [if_neg h0]
    have : ∃ r, head_Off.f k c0 l c2 c3 c4 c5 c6 c7 c8 c9 c10 c11 c12 c13 c14 c15 c5 c6 = some r := off_some _ _ 0 l (by omega) l.length 0 k (by omega) (by omega) (by omega)
    obtain ⟨r, hr⟩ := this
    rw [hr]
    simp only [Option.bind_some]
    split
    · split
      · split <;> exact j1_told _ _ (by omega) _ _ _ _ _ _ _ _ _ _ _ _ _ _ _ _ _ _ (by omega) (by omega) hc
      · exact j1_told _ _ (by omega) _ _ _ _ _ _ _ _ _ _ _ _ _ _ _ _ _ _ (by omega) (by omega) hc
    · exact j1_told _ _ (by omega) _ _ _ _ _ _ _ _ _ _ _ _ _ _ _ _ _ _ (by omega) (by omega) hc
  | succ d ih =>
    intro i k hd hi hk x7 x8 c0 l c2 c3 c4 c5 c6 c7 c8 c9 c10 c11 c12 c13 c14 c15 hl hc
    obtain ⟨k, rfl⟩ : ∃ m, k = m + 1 := ⟨k - 1, by omega⟩
    simp only [head_Parse.l0]
    rw [if_pos (by omega), if_pos (by omega), if_pos (by omega), w64i ((i : Int) + 1) (by omega) (by omega)]
    have hi1 : ((i : Int) + 1) = ((i + 1 : Nat) : Int) := by omega
    rw [hi1]
    split
    · rw [w64 (x.length : Int) (by omega) (by omega)]
      obtain ⟨b, hb, hch⟩ := load_at k (rd_T32 t i) (hr i (by omega)) l (by omega) x.length (by omega) (by omega) hc (by omega)
      rw [hb]
      simp only [Option.bind_some]
      split
      · rename_i hbt
        rw [if_pos (by omega)]
        exact ih (i + 1) k (by omega) (by omega) (by omega) _ _ _ _ _ _ _ _ _ _ _ _ _ _ _ _ _ _ (by rw [List.length_append, List.length_singleton]; omega) (hch hbt)
      · exact told_bad _ _ (by decide)
    · split
      · exact ih (i + 1) k (by omega) (by omega) (by omega) _ _ _ _ _ _ _ _ _ _ _ _ _ _ _ _ _ _ (by omega) hc
      · split
        · exact ih (i + 1) k (by omega) (by omega) (by omega) _ _ _ _ _ _ _ _ _ _ _ _ _ _ _ _ _ _ (by omega) hc
        · exact ih (i + 1) k (by omega) (by omega) (by omega) _ _ _ _ _ _ _ _ _ _ _ _ _ _ _ _ _ _ (by omega) hc
theorem table_rows (l : List Int) (hl : Bytes l) : ((tableOf l).1.map head_Table.conv).length ≤ 16 ∧ ∀ i : Nat, i < ((tableOf l).1.map head_Table.conv).length → Row (rd_T32 ((tableOf l).1.map head_Table.conv) i) := by
  unfold tableOf
  split
  · simp
  · split
    · rename_i h
      have h4 := h.2.2.2.1
      have h5 := h.2.2.2.2
      have h3 := h.2.2.1
      refine ⟨by simp; omega, fun i hi => ?_⟩
      simp only [List.length_map, List.length_range] at hi
      unfold rd_T32
      rw [List.getD_eq_getElem?_getD]
      simp only [Int.toNat_natCast, List.getElem?_map, List.getElem?_range hi, Option.map_some, Option.getD_some]
      have b : 0 ≤ U l 32 8 := leVal_nonneg l hl 32 8
      have hb : (U l 32 8).toNat + 56 * i + 56 ≤ l.length := by omega
      rw [conv_eq]
      generalize (U l 32 8).toNat + 56 * i = a at hb
      have q0 := U_bound l hl a 4 (by omega)
      have q1 := U_bound l hl (a + 4) 4 (by omega)
      have q2 := U_bound l hl (a + 8) 8 (by omega)
      have q3 := U_bound l hl (a + 16) 8 (by omega)
      have q4 := U_bound l hl (a + 32) 8 (by omega)
      have q5 := U_bound l hl (a + 40) 8 (by omega)
      exact ⟨q0.1, q1.1, q2, q3, q4, q5⟩
    · simp
theorem parse_told (l : List Int) (hl : Bytes l) (hlen : l.length ≤ 4611686018427387904) (k : Nat) (hk : 100 ≤ k) : Told l.length (head_Parse.f k l) := by
  unfold head_Parse.f head_Table.f head_first.f
  rw [if_pos ⟨hl, hlen⟩, if_pos ⟨hl, hlen⟩]
  simp only [Option.bind_some]
  by_cases h : (tableOf l).2 = 0
  · rw [if_pos h]
    have := table_rows l hl
    exact l0_told l hlen _ this.1 this.2 _ 0 k rfl (by omega) (by omega) _ _ _ _ _ _ _ _ _ _ _ _ _ _ _ _ _ _ (by simp) (fun i hi => absurd hi (by simp))
  · rw [if_neg h]
    exact told_bad _ _ h
end Go.Proofs.Ytlegpojjbeglhaa.HeadParse
