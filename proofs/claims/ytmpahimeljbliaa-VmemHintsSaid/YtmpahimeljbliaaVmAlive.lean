/- The chapter's examples are met. No condition. -/
import Derived.Test.YtmpahimeljbliaaVmLaw
import Derived.Lib.SlBytesConst
namespace Go.Proofs.Ytmpahimeljbliaa.Vm
open Go.RowKit Go.Proofs Go.Proofs.YtmpahimeljbliaaW.PrintWords

theorem al1 (b ab : Nat) : reserveF (empty 4) 1000 2 b ab = (⟨4, 2, [⟨b, ab, 768, [none, none]⟩]⟩, 768, 0) := by kernel_rfl
theorem al2 (b ab b2 ab2 : Nat) : reserveF ⟨4, 2, [⟨b, ab, 768, [none, none]⟩]⟩ 0 1 b2 ab2 = (⟨4, 3, [⟨b2, ab2, 256, [none]⟩, ⟨b, ab, 768, [none, none]⟩]⟩, 256, 0) := by kernel_rfl
theorem al3 (b ab b2 ab2 b3 ab3 : Nat) : reserveF ⟨4, 3, [⟨b2, ab2, 256, [none]⟩, ⟨b, ab, 768, [none, none]⟩]⟩ 0 2 b3 ab3 = (⟨4, 3, [⟨b2, ab2, 256, [none]⟩, ⟨b, ab, 768, [none, none]⟩]⟩, 0, 50) := by kernel_rfl
theorem al4 (b ab b2 ab2 : Nat) (nb : Nat → Nat) : mapF ⟨4, 3, [⟨b2, ab2, 256, [none]⟩, ⟨b, ab, 768, [none, none]⟩]⟩ 768 300 6 [97, 98] nb = (⟨4, 3, [⟨b2, ab2, 256, [none]⟩, ⟨b, ab, 768, [some (newPg 768 6 [97, 98] nb 0), some (newPg 768 6 [97, 98] nb 1)]⟩]⟩, 0) := by kernel_rfl
theorem al5 (b ab b2 ab2 : Nat) (nb : Nat → Nat) : readF [⟨b2, ab2, 256, [none]⟩, ⟨b, ab, 768, [some (newPg 768 6 [97, 98] nb 0), some (newPg 768 6 [97, 98] nb 1)]⟩] 768 3 = ([97, 98, 0], 0) := by kernel_rfl
theorem al_res {w : World} {own : Nat → Option Role} {base a : Nat} {v : Value} {s : Sp} (h : Holds w own base a v s) (hint pages x : Nat) (e : Int) (S : Nat → Nat → Sp) (hh : hint ≤ 18446744073709551615) (hp : pages ≤ 1000) (hS : ∀ b ab, reserveF s hint pages b ab = (S b ab, x, e)) :
    Calls Try.prog 54 #[.pointer (some ⟨a, 0, none⟩), .int .u64 hint, .int .i64 pages] w fun en w' => ∃ (own' : Nat → Option Role) (v' : Value) (b ab : Nat), en = .returned (.tuple #[.int .u64 (x : Int), .int .i64 e]) ∧ Holds w' own' base a v' (S b ab) ∧ Kp own base w w' ∧ w.heap.size ≤ w'.heap.size :=
  (reserve_in h hint pages hh hp).mono (by
    rintro _ w' ⟨own', v', b, ab, rfl, hH, -, hK⟩
    rw [hS] at hH ⊢
    exact ⟨own', v', b, ab, rfl, hH, hK, hK.bel.size⟩)
theorem ar1 {w : World} {own : Nat → Option Role} {base a : Nat} {v : Value} (h : Holds w own base a v (empty 4)) : Calls Try.prog 54 #[.pointer (some ⟨a, 0, none⟩), .int .u64 1000, .int .i64 2] w fun en w' => ∃ (own' : Nat → Option Role) (v' : Value) (b ab : Nat), en = .returned (.tuple #[.int .u64 768, .int .i64 0]) ∧ Holds w' own' base a v' (⟨4, 2, [⟨b, ab, 768, [none, none]⟩]⟩) ∧ Kp own base w w' ∧ w.heap.size ≤ w'.heap.size :=
  al_res h 1000 2 768 0 (fun b ab => ⟨4, 2, [⟨b, ab, 768, [none, none]⟩]⟩) (by omega) (by omega) (al1)
theorem ar2 {w : World} {own : Nat → Option Role} {base a : Nat} {v : Value} {b1 ab1 : Nat} (h : Holds w own base a v ⟨4, 2, [⟨b1, ab1, 768, [none, none]⟩]⟩) : Calls Try.prog 54 #[.pointer (some ⟨a, 0, none⟩), .int .u64 0, .int .i64 1] w fun en w' => ∃ (own' : Nat → Option Role) (v' : Value) (b ab : Nat), en = .returned (.tuple #[.int .u64 256, .int .i64 0]) ∧ Holds w' own' base a v' (⟨4, 3, [⟨b, ab, 256, [none]⟩, ⟨b1, ab1, 768, [none, none]⟩]⟩) ∧ Kp own base w w' ∧ w.heap.size ≤ w'.heap.size :=
  al_res h 0 1 256 0 (fun b ab => ⟨4, 3, [⟨b, ab, 256, [none]⟩, ⟨b1, ab1, 768, [none, none]⟩]⟩) (by omega) (by omega) (al2 b1 ab1)
theorem ar3 {w : World} {own : Nat → Option Role} {base a : Nat} {v : Value} {b1 ab1 b2 ab2 : Nat} (h : Holds w own base a v ⟨4, 3, [⟨b2, ab2, 256, [none]⟩, ⟨b1, ab1, 768, [none, none]⟩]⟩) : Calls Try.prog 54 #[.pointer (some ⟨a, 0, none⟩), .int .u64 0, .int .i64 2] w fun en w' => ∃ (own' : Nat → Option Role) (v' : Value) (b ab : Nat), en = .returned (.tuple #[.int .u64 0, .int .i64 50]) ∧ Holds w' own' base a v' (⟨4, 3, [⟨b2, ab2, 256, [none]⟩, ⟨b1, ab1, 768, [none, none]⟩]⟩) ∧ Kp own base w w' ∧ w.heap.size ≤ w'.heap.size :=
  al_res h 0 2 0 50 (fun b ab => ⟨4, 3, [⟨b2, ab2, 256, [none]⟩, ⟨b1, ab1, 768, [none, none]⟩]⟩) (by omega) (by omega) (al3 b1 ab1 b2 ab2)
theorem an1 (w : World) : Calls Try.prog 24 #[.int .i64 4] w fun e w' => e = .returned (.tuple #[.pointer (some ⟨w.heap.size, 0, none⟩), .int .i64 0]) ∧ w' = w.alloc (.cells #[.int .i64 4, .int .i64 0, .slice none 0 0] 113) := new_in 4 (by omega) (by omega) w
theorem ah1 {w W1 : World} (h : W1 = w.alloc (.cells #[.int .i64 4, .int .i64 0, .slice none 0 0] 113)) : ∃ own, Holds W1 own w.heap.size w.heap.size (.slice none 0 0) (empty 4) := ⟨_, h ▸ new_holds 4 (by omega) (by omega) w w.heap.size (Nat.le_refl _)⟩
theorem am1 {w : World} {own : Nat → Option Role} {base a : Nat} {v : Value} {b1 ab1 b2 ab2 : Nat} (h : Holds w own base a v ⟨4, 3, [⟨b2, ab2, 256, [none]⟩, ⟨b1, ab1, 768, [none, none]⟩]⟩) (g : Nat) (hg0 : w.cell? ⟨g, 0, none⟩ = some (.int .u8 97)) (hg1 : w.cell? ⟨g, 1, none⟩ = some (.int .u8 98)) (hg : g < w.heap.size) (hgo : own g = none) :
    Calls Try.prog 55 #[.pointer (some ⟨a, 0, none⟩), .int .u64 768, .int .u64 300, .int .i64 6, .slice (some ⟨g, 0, none⟩) 2 2] w fun en w' => ∃ (own' : Nat → Option Role) (nb : Nat → Nat), en = .returned (.int .i64 0) ∧ Holds w' own' base a v ⟨4, 3, [⟨b2, ab2, 256, [none]⟩, ⟨b1, ab1, 768, [some (newPg 768 6 [97, 98] nb 0), some (newPg 768 6 [97, 98] nb 1)]⟩]⟩ ∧ Kp own base w w' :=
  (map_in h 768 300 6 (some ⟨g, 0, none⟩) 2 [97, 98] (by omega) (by omega) (by omega) (by omega) ⟨⟨rfl, by decide, fun _ => ⟨_, rfl, fun j hj => by
    have hj2 : j < 2 := hj
    rw [add_plain]
    rcases j with _ | _ | j
    · exact hg0
    · exact hg1
    · omega⟩⟩, by decide, fun _ ad e => by cases e; exact ⟨hgo, hg⟩⟩ (by decide) (by decide)).mono (by
    rintro _ w' ⟨own', nb, rfl, hH, -, hK⟩
    rw [al4] at hH ⊢
    exact ⟨own', nb, rfl, hH, hK⟩)
theorem ad1 {w : World} {own : Nat → Option Role} {base a : Nat} {v : Value} {b1 ab1 b2 ab2 : Nat} {nb : Nat → Nat} (h : Holds w own base a v ⟨4, 3, [⟨b2, ab2, 256, [none]⟩, ⟨b1, ab1, 768, [some (newPg 768 6 [97, 98] nb 0), some (newPg 768 6 [97, 98] nb 1)]⟩]⟩) :
    Calls Try.prog 33 #[.pointer (some ⟨a, 0, none⟩), .int .u64 768, .int .u64 3] w fun e w' => ∃ v' : Value, e = .returned (.tuple #[v', .int .i64 0]) ∧ w'.ownsRow w.heap.size 5 1 v' 3 (nums .u8 [97, 98, 0]) ∧ Below w.heap.size w w' :=
  (read_in h 768 3 (by omega) (by omega)).mono (by
    rintro _ w' ⟨v', rfl, hO, hB⟩
    rw [al5] at hO ⊢
    exact ⟨v', rfl, hO, hB⟩)
theorem au1 {w : World} {own : Nat → Option Role} {base a : Nat} {v : Value} {l : List Rm} (h : Holds w own base a v ⟨4, 3, l⟩) : Calls Try.prog 28 #[.pointer (some ⟨a, 0, none⟩)] w fun e w' => e = .returned (.int .i64 3) ∧ w = w' := used_in h
theorem str_aba : strOfNums [97, 98, 0] = ⟨#[97, 98, 0]⟩ := by decide
set_option maxRecDepth 100000 in
set_option maxHeartbeats 2000000 in
theorem alive_in (w : World) : Calls Try.prog 25 #[] w fun e w' => e = .returned (.bool true) ∧ Below w.heap.size w w' := by
  go_enter Try.func25, Try.ntmps25
  go_wp2_with (first
    | (go_at_call 24; (with_reducible refine (an1 w).mono ?_); rintro _ W1 ⟨rfl, hW1⟩; obtain ⟨own1, hh1⟩ := ah1 hW1; have HH1 := Aside0.mk hh1; have HB1 := Aside0.mk (show Below w.heap.size w W1 from hW1 ▸ below_new w _); clear hW1 hh1)
    | (go_at_call 54; (with_reducible refine (ar1 HH1.out).mono ?_); rintro _ W2 ⟨own2, v2, b1, ab1, rfl, hH, hK, hz⟩; have HH2 := Aside0.mk hH; have HB2 := Aside0.mk (HB1.out.trans hK.bel); clear hH hK hz)
    | (go_at_call 54; (with_reducible refine (ar2 HH2.out).mono ?_); rintro _ W3 ⟨own3, v3, b2, ab2, rfl, hH, hK, hz⟩; have HH3 := Aside0.mk hH; have HB3 := Aside0.mk (HB2.out.trans hK.bel); clear hH hK hz)
    | (go_at_call 54; (with_reducible refine (ar3 HH3.out).mono ?_); rintro _ W4 ⟨own4, v4, b3, ab3, rfl, hH, hK, hz⟩; have HH4 := Aside0.mk hH; have HB4 := Aside0.mk (HB3.out.trans hK.bel); have hc22 := Lib.run_convert_bytes_const (P := Try.prog) W4 22 5 #[.int .u8 97, .int .u8 98] 2 2 Try.underlying22 Try.underlying5; clear hH hK hz)
    | (go_at_call 55; (with_reducible refine (am1 (HH4.out.below (below_new W4 (.cells #[.int .u8 97, .int .u8 98] 5 (2, 3)))) W4.heap.size (World.cell?_alloc_mark W4 _ _ _ 0) (World.cell?_alloc_mark W4 _ _ _ 1) (by simp) (Classical.byContradiction fun cc => absurd (HH4.out.lt _ cc).2 (Nat.lt_irrefl _))).mono ?_); rintro _ W5 ⟨own5, nb, rfl, hH, hK⟩; have HH5 := Aside0.mk hH; have HB5 := Aside0.mk (HB4.out.trans ((Below.refl w.heap.size W4).alloc HB4.out.size (.cells #[.int .u8 97, .int .u8 98] 5 (2, 3)) |>.trans hK.bel)); clear hH hK)
    | (go_at_call 33; (with_reducible refine (ad1 HH5.out).mono ?_); rintro _ W6 ⟨v6, rfl, hO, hB⟩; have HH6 := Aside0.mk (HH5.out.below hB); have HB6 := Aside0.mk (below_then HB5.out HB5.out.size hB); obtain ⟨A6, c6, rfl⟩ := own_slice hO; have hcv : (convert 22 9 (.slice A6 3 c6)).run Try.prog W6 = .ok (.string ⟨#[97, 98, 0]⟩) W6 := str_aba ▸ own_string Try.underlying22 Try.underlying5 Try.underlying9 hO; clear hO hB)
    | (go_at_call 28; (with_reducible refine (au1 HH6.out).mono ?_); rintro _ _ ⟨rfl, rfl⟩))
  go_ret
  exact ⟨rfl, HB6.out⟩
end Go.Proofs.Ytmpahimeljbliaa.Vm
