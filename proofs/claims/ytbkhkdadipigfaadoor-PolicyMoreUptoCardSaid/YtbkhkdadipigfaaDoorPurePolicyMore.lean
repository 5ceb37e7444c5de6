/-
  What a namespace may have it may have with a folder more: what the walk asks, by the plain laws, where the texts in the lists are of at most 1048576 bytes.
-/
import Derived.Test.YtbkhkdadipigfaaDoorQAskEq
import Derived.Test.YtbkhkdadipigfaaDoorPolMore
namespace Go.Proofs.YtbkhkdadipigfaaDoor.PurePolicyMore
open Go.RowKit Go.Proofs.YtbkhkdadipigfaaDoor.Q Go.Proofs.YtbkhkdadipigfaaDoorW.PrintWords
open Go.Proofs.YtbkhkdadipigfaaDoor.QEq Go.Proofs.YtbkhkdadipigfaaDoor.QPol Go.Proofs.YtbkhkdadipigfaaDoor.QAskEq

theorem more_holds (x : S41) (m lv : Int) (gr : List ByteArray) (gt : Int) (gd : ByteArray) (pg ins : Int) (first : Bool) (real name tgt : ByteArray) (A3 : Option Addr) (c3 : Nat) (A4 : Option Addr) (c4 : Nat) (A5 : Option Addr) (c5 : Nat) (A6 : Option Addr) (c6 : Nat) (A9 : Option Addr) (c9 : Nat) (dir : ByteArray) (pm : Bool) (w : World) (hsh : SH w)
    (h3 : Kd.C Kd.string w A3 x.f3.length x.f3) (e3 : x.f3.length ≤ c3) (h4 : Kd.C Kd.string w A4 x.f4.length x.f4) (e4 : x.f4.length ≤ c4) (h5 : Kd.C Kd.string w A5 x.f5.length x.f5) (e5 : x.f5.length ≤ c5) (h6 : Kd.C k48 w A6 x.f6.length x.f6) (e6 : x.f6.length ≤ c6) (h9 : Kd.C Kd.string w A9 gr.length gr) (e9 : gr.length ≤ c9)
    (b3 : ∀ s ∈ x.f3, s.size ≤ 1048576) (b4 : ∀ s ∈ x.f4, s.size ≤ 1048576) :
    Calls Tryd.prog 11 #[.agg #[.string x.f0, .bool x.f1, .bool x.f2, .slice A3 x.f3.length c3, .slice A4 x.f4.length c4, .slice A5 x.f5.length c5, .slice A6 x.f6.length c6, .int .u16 m, .int .i64 lv, .slice A9 gr.length c9, .int .i64 gt, .string gd, .int .i64 pg, .int .i64 ins, .bool first, .string real, .string name, .string tgt], .string dir, .bool pm] w fun e w' => e = .returned (.bool true) ∧ Below w.heap.size w w' := by
  obtain ⟨K, hK⟩ : ∃ K : Nat, K = 10000000 := ⟨_, rfl⟩
  obtain ⟨b, hb, hbl⟩ := great_eq x.f0 x.f1 x.f2 x.f3 x.f4 x.f5 x.f6 m lv gr gt gd pg ins first real name tgt K (by omega)
  have z3 : ∀ s ∈ x.f3, s.size ≤ 2000000 := fun s hs => by have := b3 s hs; omega
  have z4 : ∀ s ∈ x.f4, s.size ≤ 2000000 := fun s hs => by have := b4 s hs; omega
  have zc : ∀ (l : List ByteArray), dir.size ≤ 4096 → (∀ s ∈ l, s.size ≤ 2000000) → ∀ s ∈ dir :: l, s.size ≤ 2000000 := fun l hd hl s hs => by
    rcases List.mem_cons.1 hs with rfl | hs
    · omega
    · exact hl s hs
  have key : b = false → ∀ (iso f2 : Bool) (f0 : ByteArray) (l3 l4 l5 : List ByteArray) (l6 : List S48), l3.length ≤ 70 → (∀ s ∈ l3, s.size ≤ 2000000) → l4.length ≤ 70 → (∀ s ∈ l4, s.size ≤ 2000000) → policy_Accessible.f K f0 iso f2 l3 l4 l5 l6 m lv gr gt gd pg ins first real = some (accL iso l3 l4 first (greyL lv gr gt gd real) real) := fun h iso f2 f0 l3 l4 l5 l6 q3 y3 q4 y4 => by
    obtain ⟨n3, n4, n5, n6, n7, n8, n9, n10⟩ := hbl h
    exact acc_eq real n8 lv gr gt gd (by omega) (by omega) m pg ins first f0 iso f2 l3 l4 l5 l6 q3 y3 q4 y4 K (by omega)
  refine PolMore.more_in K x.f0 x.f1 x.f2 A3 c3 x.f3 A4 c4 x.f4 A5 c5 x.f5 A6 c6 x.f6 m lv A9 c9 gr gt gd pg ins first real name tgt dir pm w hsh h3 e3 h4 e4 h5 e5 h6 e6 h9 e9 b (accL x.f1 x.f3 x.f4 first (greyL lv gr gt gd real) real) (greyL lv gr gt gd real) hb (fun h => ⟨(hbl h).1, (hbl h).2.1⟩)
    (fun h => key h _ _ _ _ _ _ _ (by have := (hbl h).1; omega) z3 (by have := (hbl h).2.1; omega) z4) (fun h hd _ ha => ?_) (fun h hd _ ha => ?_) (fun h => ?_) (fun h => ?_) (alive_eq' K (by omega)) (fun h ha => ?_)
  · rw [key h _ _ _ _ _ _ _ (by have := (hbl h).1; omega) z3 (by have := (hbl h).2.1; rw [List.length_cons]; omega) (zc _ hd z4)]
    congr 1
    unfold accL perm at ha ⊢
    rw [List.any_cons]
    revert ha
    cases x.f1 <;> cases srch real x.f3 <;> cases (first && greyL lv gr gt gd real) <;> simp
    intro y hy he
    exact .inr ⟨y, hy, he⟩
  · rw [key h _ _ _ _ _ _ _ (by have := (hbl h).1; rw [List.length_cons]; omega) (zc _ hd z3) (by have := (hbl h).2.1; omega) z4]
    congr 1
    unfold accL srch at ha ⊢
    rw [List.any_cons]
    revert ha
    cases x.f1 <;> cases perm real x.f4 <;> cases (first && greyL lv gr gt gd real) <;> simp
    intro y hy he
    exact .inr ⟨y, hy, he⟩
  · rw [key h _ _ _ _ _ _ _ (by simp) (by simp) (by simp) (by simp)]
    simp [accL, srch, perm]
  · obtain ⟨n3, n4, n5, n6, n7, n8, n9, n10⟩ := hbl h
    exact grey_eq m lv gr gt gd pg ins real K (by omega) (by omega) (by omega) (by omega) (by omega)
  · unfold accL at ha
    cases h1 : x.f1
    · rw [h1] at ha
      simp at ha
    · rfl
end Go.Proofs.YtbkhkdadipigfaaDoor.PurePolicyMore
