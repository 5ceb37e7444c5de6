/-
  A link more lets through what it says, and takes nothing away: what the walk asks, by the plain laws. No condition but that the arguments lie in memory as told.
-/
import Derived.Test.YtbkhkdadipigfaaDoorQAskEq
import Derived.Test.YtbkhkdadipigfaaDoorAskOpens
import Derived.Test.YtbkhkdadipigfaaDoorPolLinks
namespace Go.Proofs.YtbkhkdadipigfaaDoor.PurePolicyLinks
open Go.RowKit Go.ChangeShapes Go.WideShapes Go.Deep Go.Proofs.YtbkhkdadipigfaaDoor.Q Go.Proofs.YtbkhkdadipigfaaDoorW.PrintWords Go.Proofs.YtbkhkdadipigfaaDoor.OpensB
open Go.Proofs.YtbkhkdadipigfaaDoor.QEq Go.Proofs.YtbkhkdadipigfaaDoor.QPol Go.Proofs.YtbkhkdadipigfaaDoor.QAskEq

theorem link_ge (tgt name : ByteArray) : ∀ (xs : List S48) (i : Nat), linkL tgt name xs i = -1 ∨ (i : Int) ≤ linkL tgt name xs i
  | [], i => .inl rfl
  | l :: r, i => by
    unfold linkL
    split
    · exact .inr (Int.le_refl _)
    · rcases link_ge tgt name r (i + 1) with h | h
      · exact .inl h
      · exact .inr (by omega)
theorem link_app (tgt name : ByteArray) (x : S48) : ∀ (xs : List S48) (i : Nat), (0 ≤ linkL tgt name xs i → linkL tgt name (xs ++ [x]) i = linkL tgt name xs i) ∧
    (linkL tgt name xs i < 0 → linkL tgt name (xs ++ [x]) i = if x.f0.toList = tgt.toList ∧ thr x name = true then ((i + xs.length : Nat) : Int) else -1)
  | [], i => ⟨fun h => by simp [linkL] at h, fun _ => by simp [linkL]⟩
  | l :: r, i => by
    obtain ⟨h1, h2⟩ := link_app tgt name x r (i + 1)
    rw [List.cons_append]
    unfold linkL
    split
    · exact ⟨fun _ => rfl, fun h => by omega⟩
    · refine ⟨h1, fun h => ?_⟩
      rw [h2 h, List.length_cons, show i + 1 + r.length = i + (r.length + 1) from by omega]
theorem open_link {H : Type} {enc : TypeId × Value → H} {W : World} {r : Reach} {b0 base : Nat} {spare : Nat → Bool} {held : Bool} {v : Value} {d : DataW H} {p : List MemPlace}
    (hv : Value.okWide Tryd.prog W r b0 48 v) (h : DataW.Trod enc Tryd.prog W base spare held 48 v d p) :
    ∃ (A : Option Addr) (c : Nat) (y : S48), v = .agg #[.string y.f0, .slice A y.f1.length c, .bool y.f2] ∧ y.f1.length ≤ c ∧ Kd.string.C W A y.f1.length y.f1 := by
  have oStrs := opens_slice Tryd.underlying32 (by kernel_rfl) (AskOpens.oStr (B := Rows.uptoBulk d))
  have o48 := opens_struct (β := S48) (f := fun x => (x.f0, x.f1, x.f2)) (g := fun x => ⟨x.1, x.2.1, x.2.2⟩) Tryd.underlying48 (by kernel_rfl) (fun _ => rfl) (opensF_cons (B := Rows.uptoBulk d) rfl rfl AskOpens.oStr (opensF_cons rfl rfl oStrs (opensF_one rfl AskOpens.oBool)))
  obtain ⟨cs, rfl, _⟩ := okWide_struct Tryd.underlying48 hv
  obtain ⟨y, hk, hq⟩ := opens_arg o48 h (Nat.le_refl _)
  obtain ⟨A1, c1, e1, l1, g1⟩ := k48_open hk
  obtain rfl : cs = _ := Array.toList_inj.1 (e1.trans (show _ = (#[_, _, _] : Array Value).toList from rfl))
  exact ⟨A1, c1, y, rfl, l1, g1⟩
theorem links_holds (x : S41) (m lv : Int) (gr : List ByteArray) (gt : Int) (gd : ByteArray) (pg ins : Int) (first : Bool) (real name tgt : ByteArray) (A3 : Option Addr) (c3 : Nat) (A4 : Option Addr) (c4 : Nat) (A5 : Option Addr) (c5 : Nat) (A6 : Option Addr) (c6 : Nat) (A9 : Option Addr) (c9 : Nat) (y : S48) (Ay : Option Addr) (cy : Nat) (w : World) (hsh : SH w)
    (h3 : Kd.C Kd.string w A3 x.f3.length x.f3) (e3 : x.f3.length ≤ c3) (h4 : Kd.C Kd.string w A4 x.f4.length x.f4) (e4 : x.f4.length ≤ c4) (h5 : Kd.C Kd.string w A5 x.f5.length x.f5) (e5 : x.f5.length ≤ c5) (h6 : Kd.C k48 w A6 x.f6.length x.f6) (e6 : x.f6.length ≤ c6) (h9 : Kd.C Kd.string w A9 gr.length gr) (e9 : gr.length ≤ c9) (hy : Kd.C Kd.string w Ay y.f1.length y.f1) (ey : y.f1.length ≤ cy) :
    Calls Tryd.prog 10 #[.agg #[.string x.f0, .bool x.f1, .bool x.f2, .slice A3 x.f3.length c3, .slice A4 x.f4.length c4, .slice A5 x.f5.length c5, .slice A6 x.f6.length c6, .int .u16 m, .int .i64 lv, .slice A9 gr.length c9, .int .i64 gt, .string gd, .int .i64 pg, .int .i64 ins, .bool first, .string real, .string name, .string tgt], .agg #[.string y.f0, .slice Ay y.f1.length cy, .bool y.f2]] w fun e w' => e = .returned (.bool true) ∧ Below w.heap.size w w' := by
  obtain ⟨b, hb, hbl⟩ := great_eq x.f0 x.f1 x.f2 x.f3 x.f4 x.f5 x.f6 m lv gr gt gd pg ins first real name tgt 1000 (by omega)
  have hap := link_app tgt name y x.f6 0
  refine PolLinks.links_in 1000 x.f0 x.f1 x.f2 A3 c3 x.f3 A4 c4 x.f4 A5 c5 x.f5 A6 c6 x.f6 m lv A9 c9 gr gt gd pg ins first real name tgt y Ay cy w hsh h3 e3 h4 e4 h5 e5 h6 e6 h9 e9 hy ey b (thr y name) (linkL tgt name x.f6 0) (linkL tgt name (x.f6 ++ [y]) 0) hb (fun h => (hbl h).2.2.2.1)
    (fun h => link_eq tgt name x.f6 1000 (by have := (hbl h).2.2.2.1; omega) (hbl h).2.2.2.2.1 (by have := (hbl h).2.2.2.1; omega) _ _ _ _ _ _) (fun h hy => link_eq tgt name (x.f6 ++ [y]) 1000 (by have := (hbl h).2.2.2.1; rw [List.length_append, List.length_singleton]; omega) (fun l hl => ?_) (by have := (hbl h).2.2.2.1; rw [List.length_append, List.length_singleton]; omega) _ _ _ _ _ _)
    (fun h => through_eq y name 1000 (by omega) (by omega)) (alive_eq' 1000 (by omega)) (fun h => hap.1 h) (fun h h1 h2 => ?_) (fun h h1 => ?_)
  · rcases List.mem_append.1 hl with hl | hl
    · exact (hbl h).2.2.2.2.1 l hl
    · obtain rfl := List.mem_singleton.1 hl
      exact hy
  · rw [hap.2 h, if_pos ⟨h1, h2⟩, Nat.zero_add]
  · rw [hap.2 h, if_neg]
    rintro ⟨g1, g2⟩
    rcases h1 with h1 | h1
    · exact h1 g1
    · rw [h1] at g2
      cases g2
end Go.Proofs.YtbkhkdadipigfaaDoor.PurePolicyLinks
