/-
  What is asked of a namespace, opened: a reading of bulk at most 1048576 of the struct Ask is eighteen cells, the printed kinds' values behind them, and no text in the lists is longer than that.
-/
import Derived.Test.YtbkhkdadipigfaaDoorOpensB
import Derived.Test.YtbkhkdadipigfaaDoorQx0
namespace Go.Proofs.YtbkhkdadipigfaaDoor.AskOpens
open Go.RowKit Go.ChangeShapes Go.WideShapes Go.Deep Go.Proofs.YtbkhkdadipigfaaDoorW.PrintWords Go.Proofs.YtbkhkdadipigfaaDoor.Q Go.Proofs.YtbkhkdadipigfaaDoor.OpensB

theorem oI16 {B : Nat} : Opens B Tryd.prog (Kd.int .u16) (fun n => (Lit.int .u16 n).wf = true) 42 := opens_int Tryd.underlying42 (by kernel_rfl)
theorem oInt {B : Nat} : Opens B Tryd.prog (Kd.int .i64) (fun n => (Lit.int .i64 n).wf = true) 3 := opens_int Tryd.underlying3 (by kernel_rfl)
theorem oBool {B : Nat} : Opens B Tryd.prog Kd.bool (fun _ => True) 4 := opens_bool Tryd.underlying4 (by kernel_rfl)
theorem oStr {B : Nat} : Opens B Tryd.prog Kd.string (fun s => s.size ≤ B) 9 := opens_string Tryd.underlying9 (by kernel_rfl)
theorem open_ask {B : Nat} {H : Type} {enc : TypeId × Value → H} {W : World} {r : Reach} {b0 base : Nat} {spare : Nat → Bool} {held : Bool} {v : Value} {d : DataW H} {p : List MemPlace}
    (hv : Value.okWide Tryd.prog W r b0 46 v) (h : DataW.Trod enc Tryd.prog W base spare held 46 v d p) (hb : Rows.uptoBulk d ≤ B) :
    ∃ (x : S41) (m lv : Int) (gr : List ByteArray) (gt : Int) (gd : ByteArray) (pg ins : Int) (first : Bool) (real name tgt : ByteArray) (A3 : Option Addr) (c3 : Nat) (A4 : Option Addr) (c4 : Nat) (A5 : Option Addr) (c5 : Nat) (A6 : Option Addr) (c6 : Nat) (A9 : Option Addr) (c9 : Nat),
      v = .agg #[.string x.f0, .bool x.f1, .bool x.f2, .slice A3 x.f3.length c3, .slice A4 x.f4.length c4, .slice A5 x.f5.length c5, .slice A6 x.f6.length c6, .int .u16 m, .int .i64 lv, .slice A9 gr.length c9, .int .i64 gt, .string gd, .int .i64 pg, .int .i64 ins, .bool first, .string real, .string name, .string tgt] ∧
      (x.f3.length ≤ c3 ∧ Kd.string.C W A3 x.f3.length x.f3) ∧ (x.f4.length ≤ c4 ∧ Kd.string.C W A4 x.f4.length x.f4) ∧ (x.f5.length ≤ c5 ∧ Kd.string.C W A5 x.f5.length x.f5) ∧ (x.f6.length ≤ c6 ∧ k48.C W A6 x.f6.length x.f6) ∧ (gr.length ≤ c9 ∧ Kd.string.C W A9 gr.length gr) ∧
      (∀ s ∈ x.f3, s.size ≤ B) ∧ (∀ s ∈ x.f4, s.size ≤ B) := by
  have oStrs := opens_slice Tryd.underlying32 (by kernel_rfl) (oStr (B := B))
  have o48 := opens_struct (β := S48) (f := fun x => (x.f0, x.f1, x.f2)) (g := fun x => ⟨x.1, x.2.1, x.2.2⟩) Tryd.underlying48 (by kernel_rfl) (fun _ => rfl) (opensF_cons (B := B) rfl rfl oStr (opensF_cons rfl rfl oStrs (opensF_one rfl oBool)))
  have o39 := opens_slice Tryd.underlying39 (by kernel_rfl) o48
  have o41 := opens_struct (β := S41) (f := fun x => (x.f0, x.f1, x.f2, x.f3, x.f4, x.f5, x.f6)) (g := fun x => ⟨x.1, x.2.1, x.2.2.1, x.2.2.2.1, x.2.2.2.2.1, x.2.2.2.2.2.1, x.2.2.2.2.2.2⟩) Tryd.underlying41 (by kernel_rfl) (fun _ => rfl) (opensF_cons (B := B) rfl rfl oStr (opensF_cons rfl rfl oBool (opensF_cons rfl rfl oBool (opensF_cons rfl rfl oStrs (opensF_cons rfl rfl oStrs (opensF_cons rfl rfl oStrs (opensF_one rfl o39)))))))
  have o44 := opens_struct (f := id) (g := id) Tryd.underlying44 (by kernel_rfl) (fun _ => rfl) (opensF_cons (B := B) rfl rfl oI16 (opensF_cons rfl rfl oInt (opensF_cons rfl rfl oStrs (opensF_cons rfl rfl oInt (opensF_cons rfl rfl oStr (opensF_cons rfl rfl oInt (opensF_one rfl oInt)))))))
  have o46 := opens_struct (f := id) (g := id) Tryd.underlying46 (by kernel_rfl) (fun _ => rfl) (opensF_cons (B := B) rfl rfl o41 (opensF_cons rfl rfl o44 (opensF_cons rfl rfl oBool (opensF_cons rfl rfl oStr (opensF_cons rfl rfl oStr (opensF_one rfl oStr))))))
  obtain ⟨cs, rfl, _⟩ := okWide_struct Tryd.underlying46 hv
  obtain ⟨y, hk, hq⟩ := opens_arg o46 h hb
  obtain ⟨x, st, first, real, name, tgt⟩ := y
  obtain ⟨m, lv, gr, gt, gd, pg, ins⟩ := st
  obtain ⟨c1, r1, e1, hx, ⟨c2, r2, e2, hs, ⟨_, _, e3, rfl, ⟨_, _, e4, rfl, ⟨_, _, e5, rfl, rfl⟩⟩⟩⟩⟩ := hk
  obtain ⟨A3, n3, A4, n4, A5, n5, A6, n6, rfl, l3, g3, l4, g4, l5, g5, l6, g6⟩ := k41_open hx
  obtain ⟨_, _, rfl, rfl, ⟨_, _, rfl, rfl, ⟨_, _, rfl, ⟨A9, n9, rfl, l9, g9⟩, ⟨_, _, rfl, rfl, ⟨_, _, rfl, rfl, ⟨_, _, rfl, rfl, rfl⟩⟩⟩⟩⟩⟩ := hs
  subst e5 e4 e3 e2
  obtain rfl : cs = _ := Array.toList_inj.1 (e1.trans (show _ = (#[_, _, _, _, _, _, _, _, _, _, _, _, _, _, _, _, _, _] : Array Value).toList from rfl))
  exact ⟨x, m, lv, gr, gt, gd, pg, ins, first, real, name, tgt, A3, n3, A4, n4, A5, n5, A6, n6, A9, n9, rfl, ⟨l3, g3⟩, ⟨l4, g4⟩, ⟨l5, g5⟩, ⟨l6, g6⟩, ⟨l9, g9⟩, hq.1.2.2.2.1.2, hq.1.2.2.2.2.1.2⟩
end Go.Proofs.YtbkhkdadipigfaaDoor.AskOpens
