/- For functions of this seat: a plain Lean function each, and the proof that the call answers so; written by a program of this session out of the translation. No condition beyond those that stand in each theorem. -/
import Derived.Test.YtlegpojjbeglhaaPx0
import Derived.Test.YtlegpojjbeglhaaPx2
namespace Go.Proofs.Ytlegpojjbeglhaa.P
open Go.RowKit Go.Proofs.YtlegpojjbeglhaaW.PrintWords Go.Proofs.YtlegpojjbeglhaaW.PrintLast Go.Proofs.YtlegpojjbeglhaaW.PrintMore
attribute [local go_sem] max2_int min2_int max_two min_two max_three min_three max_four min_four   -- for this text's walks alone
set_option linter.unusedVariables false
set_option linter.unusedSimpArgs false

/-! ### messuageref08_Table: function 12 -/
mutual
def messuageref08_Table.j0 : Nat → List Int → Bool → Option ((List (S32)) × Int)
 | 0, _, _ => none
 | k + 1, x0, x35 => if x35 = true then (some (([] : List (S32)), 80)) else (if 4 < (x0.length : Int) then (if (rd x0 4) = 2 then (if 5 < (x0.length : Int) then (if (rd x0 5) = 1 then (if 6 < (x0.length : Int) then (messuageref08_Table.j1 k x0 ((rd x0 6) != 1)) else (none)) else (messuageref08_Table.j1 k x0 true)) else (none)) else (messuageref08_Table.j1 k x0 true)) else (none))
def messuageref08_Table.j1 : Nat → List Int → Bool → Option ((List (S32)) × Int)
 | 0, _, _ => none
 | k + 1, x0, x51 => if x51 = true then (some (([] : List (S32)), 81)) else ((messuageref08_N.f k x0 16 2).bind fun t129 => (if t129 = 3 then ((messuageref08_N.f k x0 18 2).bind fun t130 => (if t130 = 62 then (messuageref08_Table.j2 k x0 false) else ((messuageref08_N.f k x0 18 2).bind fun t131 => (messuageref08_Table.j2 k x0 (t131 != 183))))) else (some (([] : List (S32)), 82))))
def messuageref08_Table.j2 : Nat → List Int → Bool → Option ((List (S32)) × Int)
 | 0, _, _ => none
 | k + 1, x0, x62 => if x62 = true then (some (([] : List (S32)), 83)) else ((messuageref08_N.f k x0 32 8).bind fun t132 => ((messuageref08_N.f k x0 56 2).bind fun t133 => ((messuageref08_N.f k x0 52 2).bind fun t134 => (if t134 = 64 then ((messuageref08_N.f k x0 54 2).bind fun t135 => (if t135 = 56 then (if t133 < 1 then (messuageref08_Table.j3 k x0 t132 t133 true) else (if t133 > 16 then (messuageref08_Table.j3 k x0 t132 t133 true) else ((messuageref01_Inside.f t132 (IntKind.u64.wrap (t133 * 56)) 0 (IntKind.u64.wrap ((x0.length : Int)))).bind fun t136 => (messuageref08_Table.j3 k x0 t132 t133 (!t136))))) else (messuageref08_Table.j3 k x0 t132 t133 true))) else (messuageref08_Table.j3 k x0 t132 t133 true)))))
def messuageref08_Table.j3 : Nat → List Int → Int → Int → Bool → Option ((List (S32)) × Int)
 | 0, _, _, _, _ => none
 | k + 1, x0, x4, x5, x92 => if x92 = true then (some (([] : List (S32)), 84)) else (messuageref08_Table.l0 k x0 x4 x5 ([] : List (S32)) 0)
def messuageref08_Table.l0 : Nat → List Int → Int → Int → List (S32) → Int → Option ((List (S32)) × Int)
 | 0, _, _, _, _, _ => none
 | k + 1, x0, x4, x5, x6, x7 => if x7 < x5 then ((messuageref08_N.f k x0 (IntKind.u64.wrap (x4 + (IntKind.u64.wrap (x7 * 56)))) 4).bind fun t137 => ((messuageref08_N.f k x0 (IntKind.u64.wrap ((IntKind.u64.wrap (x4 + (IntKind.u64.wrap (x7 * 56)))) + 4)) 4).bind fun t138 => ((messuageref08_N.f k x0 (IntKind.u64.wrap ((IntKind.u64.wrap (x4 + (IntKind.u64.wrap (x7 * 56)))) + 8)) 8).bind fun t139 => ((messuageref08_N.f k x0 (IntKind.u64.wrap ((IntKind.u64.wrap (x4 + (IntKind.u64.wrap (x7 * 56)))) + 16)) 8).bind fun t140 => ((messuageref08_N.f k x0 (IntKind.u64.wrap ((IntKind.u64.wrap (x4 + (IntKind.u64.wrap (x7 * 56)))) + 32)) 8).bind fun t141 => ((messuageref08_N.f k x0 (IntKind.u64.wrap ((IntKind.u64.wrap (x4 + (IntKind.u64.wrap (x7 * 56)))) + 40)) 8).bind fun t142 => ((messuageref08_N.f k x0 (IntKind.u64.wrap ((IntKind.u64.wrap (x4 + (IntKind.u64.wrap (x7 * 56)))) + 48)) 8).bind fun t143 => (if x6.length < 2932031007402 then (messuageref08_Table.l0 k x0 x4 x5 (x6 ++ [(⟨(t137) % 4294967296, (t138) % 4294967296, t139, t140, t141, t142, t143⟩ : S32)]) (IntKind.u64.wrap (x7 + 1))) else (none))))))))) else (some (x6, 0))
end
def messuageref08_Table.f (k : Nat) (l0 : List Int) : Option ((List (S32)) × Int) := if (l0.length : Int) < 64 then (messuageref08_Table.j0 k l0 true) else (if 0 < (l0.length : Int) then (if (rd l0 0) = 127 then (if 1 < (l0.length : Int) then (if (rd l0 1) = 69 then (if 2 < (l0.length : Int) then (if (rd l0 2) = 76 then (if 3 < (l0.length : Int) then (messuageref08_Table.j0 k l0 ((rd l0 3) != 70)) else (none)) else (messuageref08_Table.j0 k l0 true)) else (none)) else (messuageref08_Table.j0 k l0 true)) else (none)) else (messuageref08_Table.j0 k l0 true)) else (none))
theorem messuageref08_Table.mono_l : ∀ k, (∀ y0 y1, LeO (messuageref08_Table.j0 k y0 y1) (messuageref08_Table.j0 (k + 1) y0 y1)) ∧ (∀ y0 y1, LeO (messuageref08_Table.j1 k y0 y1) (messuageref08_Table.j1 (k + 1) y0 y1)) ∧ (∀ y0 y1, LeO (messuageref08_Table.j2 k y0 y1) (messuageref08_Table.j2 (k + 1) y0 y1)) ∧ (∀ y0 y1 y2 y3, LeO (messuageref08_Table.j3 k y0 y1 y2 y3) (messuageref08_Table.j3 (k + 1) y0 y1 y2 y3)) ∧ (∀ y0 y1 y2 y3 y4, LeO (messuageref08_Table.l0 k y0 y1 y2 y3 y4) (messuageref08_Table.l0 (k + 1) y0 y1 y2 y3 y4))
 | 0 => ⟨fun _ _ r h => by simp [messuageref08_Table.j0] at h, fun _ _ r h => by simp [messuageref08_Table.j1] at h, fun _ _ r h => by simp [messuageref08_Table.j2] at h, fun _ _ _ _ r h => by simp [messuageref08_Table.j3] at h, fun _ _ _ _ _ r h => by simp [messuageref08_Table.l0] at h⟩
 | k + 1 => by
  obtain ⟨ih0, ih1, ih2, ih3, ih4⟩ := messuageref08_Table.mono_l k
  refine ⟨?_, ?_, ?_, ?_, ?_⟩
  ·
   intro y0 y1
   unfold messuageref08_Table.j0
   repeat' first
   | (with_reducible exact ih0 _ _)
   | (with_reducible exact ih1 _ _)
   | (with_reducible exact ih2 _ _)
   | (with_reducible exact ih3 _ _ _ _)
   | (with_reducible exact ih4 _ _ _ _ _)
   | (with_reducible exact messuageref08_N.mono _ _ _ _)
   | (with_reducible exact LeO.refl _)
   | (with_reducible exact LeO.none _)
   | (with_reducible refine LeO.ite ?_ ?_)
   | (with_reducible refine LeO.bind ?_ (fun _ => ?_))
   | exact ih0 _ _
   | exact ih1 _ _
   | exact ih2 _ _
   | exact ih3 _ _ _ _
   | exact ih4 _ _ _ _ _
   | exact messuageref08_N.mono _ _ _ _
   | exact LeO.none _
   | refine LeO.ite ?_ ?_
   | refine LeO.bind ?_ (fun _ => ?_)
  ·
   intro y0 y1
   unfold messuageref08_Table.j1
   repeat' first
   | (with_reducible exact ih0 _ _)
   | (with_reducible exact ih1 _ _)
   | (with_reducible exact ih2 _ _)
   | (with_reducible exact ih3 _ _ _ _)
   | (with_reducible exact ih4 _ _ _ _ _)
   | (with_reducible exact messuageref08_N.mono _ _ _ _)
   | (with_reducible exact LeO.refl _)
   | (with_reducible exact LeO.none _)
   | (with_reducible refine LeO.ite ?_ ?_)
   | (with_reducible refine LeO.bind ?_ (fun _ => ?_))
   | exact ih0 _ _
   | exact ih1 _ _
   | exact ih2 _ _
   | exact ih3 _ _ _ _
   | exact ih4 _ _ _ _ _
   | exact messuageref08_N.mono _ _ _ _
   | exact LeO.none _
   | refine LeO.ite ?_ ?_
   | refine LeO.bind ?_ (fun _ => ?_)
  ·
   intro y0 y1
   unfold messuageref08_Table.j2
   repeat' first
   | (with_reducible exact ih0 _ _)
   | (with_reducible exact ih1 _ _)
   | (with_reducible exact ih2 _ _)
   | (with_reducible exact ih3 _ _ _ _)
   | (with_reducible exact ih4 _ _ _ _ _)
   | (with_reducible exact messuageref08_N.mono _ _ _ _)
   | (with_reducible exact LeO.refl _)
   | (with_reducible exact LeO.none _)
   | (with_reducible refine LeO.ite ?_ ?_)
   | (with_reducible refine LeO.bind ?_ (fun _ => ?_))
   | exact ih0 _ _
   | exact ih1 _ _
   | exact ih2 _ _
   | exact ih3 _ _ _ _
   | exact ih4 _ _ _ _ _
   | exact messuageref08_N.mono _ _ _ _
   | exact LeO.none _
   | refine LeO.ite ?_ ?_
   | refine LeO.bind ?_ (fun _ => ?_)
  ·
   intro y0 y1 y2 y3
   unfold messuageref08_Table.j3
   repeat' first
   | (with_reducible exact ih0 _ _)
   | (with_reducible exact ih1 _ _)
   | (with_reducible exact ih2 _ _)
   | (with_reducible exact ih3 _ _ _ _)
   | (with_reducible exact ih4 _ _ _ _ _)
   | (with_reducible exact messuageref08_N.mono _ _ _ _)
   | (with_reducible exact LeO.refl _)
   | (with_reducible exact LeO.none _)
   | (with_reducible refine LeO.ite ?_ ?_)
   | (with_reducible refine LeO.bind ?_ (fun _ => ?_))
   | exact ih0 _ _
   | exact ih1 _ _
   | exact ih2 _ _
   | exact ih3 _ _ _ _
   | exact ih4 _ _ _ _ _
   | exact messuageref08_N.mono _ _ _ _
   | exact LeO.none _
   | refine LeO.ite ?_ ?_
   | refine LeO.bind ?_ (fun _ => ?_)
  ·
   intro y0 y1 y2 y3 y4
   unfold messuageref08_Table.l0
   repeat' first
   | (with_reducible exact ih0 _ _)
   | (with_reducible exact ih1 _ _)
   | (with_reducible exact ih2 _ _)
   | (with_reducible exact ih3 _ _ _ _)
   | (with_reducible exact ih4 _ _ _ _ _)
   | (with_reducible exact messuageref08_N.mono _ _ _ _)
   | (with_reducible exact LeO.refl _)
   | (with_reducible exact LeO.none _)
   | (with_reducible refine LeO.ite ?_ ?_)
   | (with_reducible refine LeO.bind ?_ (fun _ => ?_))
   | exact ih0 _ _
   | exact ih1 _ _
   | exact ih2 _ _
   | exact ih3 _ _ _ _
   | exact ih4 _ _ _ _ _
   | exact messuageref08_N.mono _ _ _ _
   | exact LeO.none _
   | refine LeO.ite ?_ ?_
   | refine LeO.bind ?_ (fun _ => ?_)
theorem messuageref08_Table.mono : ∀ a0 k, LeO (messuageref08_Table.f k a0) (messuageref08_Table.f (k + 1) a0) := by
 intro a0 k
 obtain ⟨ih0, ih1, ih2, ih3, ih4⟩ := messuageref08_Table.mono_l k
 unfold messuageref08_Table.f
 repeat' first
   | (with_reducible exact ih0 _ _)
   | (with_reducible exact ih1 _ _)
   | (with_reducible exact ih2 _ _)
   | (with_reducible exact ih3 _ _ _ _)
   | (with_reducible exact ih4 _ _ _ _ _)
   | (with_reducible exact messuageref08_N.mono _ _ _ _)
   | (with_reducible exact LeO.refl _)
   | (with_reducible exact LeO.none _)
   | (with_reducible refine LeO.ite ?_ ?_)
   | (with_reducible refine LeO.bind ?_ (fun _ => ?_))
   | exact ih0 _ _
   | exact ih1 _ _
   | exact ih2 _ _
   | exact ih3 _ _ _ _
   | exact ih4 _ _ _ _ _
   | exact messuageref08_N.mono _ _ _ _
   | exact LeO.none _
   | refine LeO.ite ?_ ?_
   | refine LeO.bind ?_ (fun _ => ?_)
set_option maxHeartbeats 8000000 in
set_option maxRecDepth 100000 in
theorem messuageref08_Table.calls (k : Nat) (A0 : Option Addr) (c0 : Nat) (l0 : List Int) (r1 : List (S32)) (r2 : Int) (w : World) (hr0 : Kd.C (Kd.int .u8) w A0 l0.length l0) (hc0 : l0.length ≤ c0) (h : messuageref08_Table.f k l0 = some (r1, r2)) :
  Calls Try.prog 12 #[.slice A0 l0.length c0] w fun e w' => ∃ v0_ : Value, e = .returned (.tuple #[v0_, .int .i64 r2]) ∧ Kd.R k32 32 w' w.heap.size (fun _ => True) v0_ r1 ∧ Below w.heap.size w w' := by
 have hu32 := Try.underlying32
 have HR0 := Aside0.mk hr0
 have HC0 := Aside0.mk hc0
 clear hr0 hc0
 have HB := Aside0.mk (Below.refl w.heap.size w)
 have H : (if (l0.length : Int) < 64 then (messuageref08_Table.j0 k l0 true) else (if 0 < (l0.length : Int) then (if (rd l0 0) = 127 then (if 1 < (l0.length : Int) then (if (rd l0 1) = 69 then (if 2 < (l0.length : Int) then (if (rd l0 2) = 76 then (if 3 < (l0.length : Int) then (messuageref08_Table.j0 k l0 ((rd l0 3) != 70)) else (none)) else (messuageref08_Table.j0 k l0 true)) else (none)) else (messuageref08_Table.j0 k l0 true)) else (none)) else (messuageref08_Table.j0 k l0 true)) else (none))) = some (r1, r2) := h
 clear h
 have HC2 := Aside0.mk H
 clear H
 go_enter Try.func12, Try.ntmps12
 go_upto_region 1 with (fail)
 go_cut [35] (fun v35 wc => ∃ (kq : Nat) (x35_1 : Bool), v35 = .bool x35_1 ∧ Aside0 (messuageref08_Table.j0 kq l0 x35_1 = some (r1, r2)) ∧ Aside0 (kq ≤ k) ∧ Aside0 (Below w.heap.size w wc))
 case first =>
  have H := HC2.out
  clear HC2
  by_cases c3 : (l0.length : Int) < 64
  ·
   rw [if_pos c3] at H
   have c3b0 : decide ((l0.length : Int) < 64) = true := decide_eq_true c3
   have c3b1 : decide (l0.length < 64) = true := decide_eq_true (by omega)
   clear c3
   (first | rw [c3b0] | (simp only [i64_w, i32_w]; rw [c3b0]) | skip)
   have H' := Aside0.mk H
   clear H
   go_wp2
   go_meet
   case rel => exact ⟨_, (true), (by first | rfl | (simp; done) | (simp [*]; done)), H', ⟨by first | omega | exact Nat.le_refl _⟩, ⟨by repeat (first | (with_reducible first | exact HB.out | apply below_alloc | apply pw_below_drewN | apply below_drew1) | exact HB.out)⟩⟩
  ·
   rw [if_neg c3] at H
   have c3b0 : decide ((l0.length : Int) < 64) = false := decide_eq_false c3
   have c3b1 : decide (l0.length < 64) = false := decide_eq_false (by omega)
   clear c3
   (first | rw [c3b0] | (simp only [i64_w, i32_w]; rw [c3b0]) | skip)
   by_cases c4 : 0 < (l0.length : Int)
   ·
    rw [if_pos c4] at H
    have c4b0 : decide (0 < (l0.length : Int)) = true := decide_eq_true c4
    have c4b1 : decide (0 < l0.length) = true := decide_eq_true (by omega)
    clear c4
    by_cases c5 : (rd l0 0) = 127
    ·
     rw [if_pos c5] at H
     have c5b0 : ((rd l0 0) == 127) = true := beq_iff_eq.mpr c5
     have c5b1 : ((rd l0 0) != 127) = false := bne_eq_false_iff_eq.mpr c5
     clear c5
     by_cases c6 : 1 < (l0.length : Int)
     ·
      rw [if_pos c6] at H
      have c6b0 : decide (1 < (l0.length : Int)) = true := decide_eq_true c6
      have c6b1 : decide (1 < l0.length) = true := decide_eq_true (by omega)
      clear c6
      by_cases c7 : (rd l0 1) = 69
      ·
       rw [if_pos c7] at H
       have c7b0 : ((rd l0 1) == 69) = true := beq_iff_eq.mpr c7
       have c7b1 : ((rd l0 1) != 69) = false := bne_eq_false_iff_eq.mpr c7
       clear c7
       by_cases c8 : 2 < (l0.length : Int)
       ·
        rw [if_pos c8] at H
        have c8b0 : decide (2 < (l0.length : Int)) = true := decide_eq_true c8
        have c8b1 : decide (2 < l0.length) = true := decide_eq_true (by omega)
        clear c8
        by_cases c9 : (rd l0 2) = 76
        ·
         rw [if_pos c9] at H
         have c9b0 : ((rd l0 2) == 76) = true := beq_iff_eq.mpr c9
         have c9b1 : ((rd l0 2) != 76) = false := bne_eq_false_iff_eq.mpr c9
         clear c9
         by_cases c10 : 3 < (l0.length : Int)
         ·
          rw [if_pos c10] at H
          have c10b0 : decide (3 < (l0.length : Int)) = true := decide_eq_true c10
          have c10b1 : decide (3 < l0.length) = true := decide_eq_true (by omega)
          clear c10
          have H' := Aside0.mk H
          clear H
          have p122 : 0 ≤ (0 : Int) := (by omega)
          have q122 : 0 < (l0.length : Int) := of_decide_eq_true (by first | (with_reducible assumption) | assumption)
          obtain ⟨ad122, e122, hx122_0⟩ := Kd.at_int HR0.out 0 p122 q122
          cases e122
          have qi122 : (0 < l0.length) = True := eq_true (by omega)
          (try rw [show ((0 : Int)).toNat = 0 from rfl] at hx122_0)
          (try rw [Addr.add_zero'] at hx122_0)
          replace hx122_0 := (HB.out.cell (World.block_lt_of_cell? w _ hx122_0)).trans hx122_0
          replace p122 := eq_true p122
          replace q122 := eq_true q122
          have p123 : 0 ≤ (1 : Int) := (by omega)
          have q123 : 1 < (l0.length : Int) := of_decide_eq_true (by first | (with_reducible assumption) | assumption)
          obtain ⟨ad123, e123, hx123_0⟩ := Kd.at_int HR0.out 1 p123 q123
          obtain rfl : ad122 = ad123 := (by injection e123)
          (try simp only [show (1 : Int).toNat = 1 from rfl, Nat.reduceMul, Nat.reduceEqDiff, Go.Addr.add, ↓reduceIte] at hx123_0)
          have qi123 : (1 < l0.length) = True := eq_true (by omega)
          (try rw [show ((1 : Int)).toNat = 1 from rfl] at hx123_0)
          replace hx123_0 := (HB.out.cell (World.block_lt_of_cell? w _ hx123_0)).trans hx123_0
          replace p123 := eq_true p123
          replace q123 := eq_true q123
          have p124 : 0 ≤ (2 : Int) := (by omega)
          have q124 : 2 < (l0.length : Int) := of_decide_eq_true (by first | (with_reducible assumption) | assumption)
          obtain ⟨ad124, e124, hx124_0⟩ := Kd.at_int HR0.out 2 p124 q124
          obtain rfl : ad122 = ad124 := (by injection e124)
          (try simp only [show (2 : Int).toNat = 2 from rfl, Nat.reduceMul, Nat.reduceEqDiff, Go.Addr.add, ↓reduceIte] at hx124_0)
          have qi124 : (2 < l0.length) = True := eq_true (by omega)
          (try rw [show ((2 : Int)).toNat = 2 from rfl] at hx124_0)
          replace hx124_0 := (HB.out.cell (World.block_lt_of_cell? w _ hx124_0)).trans hx124_0
          replace p124 := eq_true p124
          replace q124 := eq_true q124
          have p125 : 0 ≤ (3 : Int) := (by omega)
          have q125 : 3 < (l0.length : Int) := of_decide_eq_true (by first | (with_reducible assumption) | assumption)
          obtain ⟨ad125, e125, hx125_0⟩ := Kd.at_int HR0.out 3 p125 q125
          obtain rfl : ad122 = ad125 := (by injection e125)
          (try simp only [show (3 : Int).toNat = 3 from rfl, Nat.reduceMul, Nat.reduceEqDiff, Go.Addr.add, ↓reduceIte] at hx125_0)
          have qi125 : (3 < l0.length) = True := eq_true (by omega)
          (try rw [show ((3 : Int)).toNat = 3 from rfl] at hx125_0)
          replace hx125_0 := (HB.out.cell (World.block_lt_of_cell? w _ hx125_0)).trans hx125_0
          replace p125 := eq_true p125
          replace q125 := eq_true q125
          go_wp2
          go_meet
          case rel => exact ⟨_, (((rd l0 3) != 70)), (by first | rfl | (simp; done) | (simp [*]; done)), H', ⟨by first | omega | exact Nat.le_refl _⟩, ⟨by repeat (first | (with_reducible first | exact HB.out | apply below_alloc | apply pw_below_drewN | apply below_drew1) | exact HB.out)⟩⟩
         ·
          rw [if_neg c10] at H
          exact absurd H (by simp)
        ·
         rw [if_neg c9] at H
         have c9b0 : ((rd l0 2) == 76) = false := beq_eq_false_iff_ne.mpr c9
         have c9b1 : ((rd l0 2) != 76) = true := bne_iff_ne.mpr c9
         have H' := Aside0.mk H
         clear H
         have p122 : 0 ≤ (0 : Int) := (by omega)
         have q122 : 0 < (l0.length : Int) := of_decide_eq_true (by first | (with_reducible assumption) | assumption)
         obtain ⟨ad122, e122, hx122_0⟩ := Kd.at_int HR0.out 0 p122 q122
         cases e122
         have qi122 : (0 < l0.length) = True := eq_true (by omega)
         (try rw [show ((0 : Int)).toNat = 0 from rfl] at hx122_0)
         (try rw [Addr.add_zero'] at hx122_0)
         replace hx122_0 := (HB.out.cell (World.block_lt_of_cell? w _ hx122_0)).trans hx122_0
         replace p122 := eq_true p122
         replace q122 := eq_true q122
         have p123 : 0 ≤ (1 : Int) := (by omega)
         have q123 : 1 < (l0.length : Int) := of_decide_eq_true (by first | (with_reducible assumption) | assumption)
         obtain ⟨ad123, e123, hx123_0⟩ := Kd.at_int HR0.out 1 p123 q123
         obtain rfl : ad122 = ad123 := (by injection e123)
         (try simp only [show (1 : Int).toNat = 1 from rfl, Nat.reduceMul, Nat.reduceEqDiff, Go.Addr.add, ↓reduceIte] at hx123_0)
         have qi123 : (1 < l0.length) = True := eq_true (by omega)
         (try rw [show ((1 : Int)).toNat = 1 from rfl] at hx123_0)
         replace hx123_0 := (HB.out.cell (World.block_lt_of_cell? w _ hx123_0)).trans hx123_0
         replace p123 := eq_true p123
         replace q123 := eq_true q123
         have p124 : 0 ≤ (2 : Int) := (by omega)
         have q124 : 2 < (l0.length : Int) := of_decide_eq_true (by first | (with_reducible assumption) | assumption)
         obtain ⟨ad124, e124, hx124_0⟩ := Kd.at_int HR0.out 2 p124 q124
         obtain rfl : ad122 = ad124 := (by injection e124)
         (try simp only [show (2 : Int).toNat = 2 from rfl, Nat.reduceMul, Nat.reduceEqDiff, Go.Addr.add, ↓reduceIte] at hx124_0)
         have qi124 : (2 < l0.length) = True := eq_true (by omega)
         (try rw [show ((2 : Int)).toNat = 2 from rfl] at hx124_0)
         replace hx124_0 := (HB.out.cell (World.block_lt_of_cell? w _ hx124_0)).trans hx124_0
         replace p124 := eq_true p124
         replace q124 := eq_true q124
         go_wp2
         go_meet
         case rel => exact ⟨_, (true), (by first | rfl | (simp; done) | (simp [*]; done)), H', ⟨by first | omega | exact Nat.le_refl _⟩, ⟨by repeat (first | (with_reducible first | exact HB.out | apply below_alloc | apply pw_below_drewN | apply below_drew1) | exact HB.out)⟩⟩
       ·
        rw [if_neg c8] at H
        exact absurd H (by simp)
      ·
       rw [if_neg c7] at H
       have c7b0 : ((rd l0 1) == 69) = false := beq_eq_false_iff_ne.mpr c7
       have c7b1 : ((rd l0 1) != 69) = true := bne_iff_ne.mpr c7
       have H' := Aside0.mk H
       clear H
       have p122 : 0 ≤ (0 : Int) := (by omega)
       have q122 : 0 < (l0.length : Int) := of_decide_eq_true (by first | (with_reducible assumption) | assumption)
       obtain ⟨ad122, e122, hx122_0⟩ := Kd.at_int HR0.out 0 p122 q122
       cases e122
       have qi122 : (0 < l0.length) = True := eq_true (by omega)
       (try rw [show ((0 : Int)).toNat = 0 from rfl] at hx122_0)
       (try rw [Addr.add_zero'] at hx122_0)
       replace hx122_0 := (HB.out.cell (World.block_lt_of_cell? w _ hx122_0)).trans hx122_0
       replace p122 := eq_true p122
       replace q122 := eq_true q122
       have p123 : 0 ≤ (1 : Int) := (by omega)
       have q123 : 1 < (l0.length : Int) := of_decide_eq_true (by first | (with_reducible assumption) | assumption)
       obtain ⟨ad123, e123, hx123_0⟩ := Kd.at_int HR0.out 1 p123 q123
       obtain rfl : ad122 = ad123 := (by injection e123)
       (try simp only [show (1 : Int).toNat = 1 from rfl, Nat.reduceMul, Nat.reduceEqDiff, Go.Addr.add, ↓reduceIte] at hx123_0)
       have qi123 : (1 < l0.length) = True := eq_true (by omega)
       (try rw [show ((1 : Int)).toNat = 1 from rfl] at hx123_0)
       replace hx123_0 := (HB.out.cell (World.block_lt_of_cell? w _ hx123_0)).trans hx123_0
       replace p123 := eq_true p123
       replace q123 := eq_true q123
       go_wp2
       go_meet
       case rel => exact ⟨_, (true), (by first | rfl | (simp; done) | (simp [*]; done)), H', ⟨by first | omega | exact Nat.le_refl _⟩, ⟨by repeat (first | (with_reducible first | exact HB.out | apply below_alloc | apply pw_below_drewN | apply below_drew1) | exact HB.out)⟩⟩
     ·
      rw [if_neg c6] at H
      exact absurd H (by simp)
    ·
     rw [if_neg c5] at H
     have c5b0 : ((rd l0 0) == 127) = false := beq_eq_false_iff_ne.mpr c5
     have c5b1 : ((rd l0 0) != 127) = true := bne_iff_ne.mpr c5
     have H' := Aside0.mk H
     clear H
     have p122 : 0 ≤ (0 : Int) := (by omega)
     have q122 : 0 < (l0.length : Int) := of_decide_eq_true (by first | (with_reducible assumption) | assumption)
     obtain ⟨ad122, e122, hx122_0⟩ := Kd.at_int HR0.out 0 p122 q122
     cases e122
     have qi122 : (0 < l0.length) = True := eq_true (by omega)
     (try rw [show ((0 : Int)).toNat = 0 from rfl] at hx122_0)
     (try rw [Addr.add_zero'] at hx122_0)
     replace hx122_0 := (HB.out.cell (World.block_lt_of_cell? w _ hx122_0)).trans hx122_0
     replace p122 := eq_true p122
     replace q122 := eq_true q122
     go_wp2
     go_meet
     case rel => exact ⟨_, (true), (by first | rfl | (simp; done) | (simp [*]; done)), H', ⟨by first | omega | exact Nat.le_refl _⟩, ⟨by repeat (first | (with_reducible first | exact HB.out | apply below_alloc | apply pw_below_drewN | apply below_drew1) | exact HB.out)⟩⟩
   ·
    rw [if_neg c4] at H
    exact absurd H (by simp)
 case rest =>
  clear HC2
  try clear c1
  try clear p1
  try clear q1
  try clear hx1
  try clear qi1
  try clear p2
  try clear c3
  try clear c3b0
  try clear c3b1
  try clear c4
  try clear c4b0
  try clear c4b1
  try clear c5
  try clear c5b0
  try clear c5b1
  try clear c6
  try clear c6b0
  try clear c6b1
  try clear c7
  try clear c7b0
  try clear c7b1
  try clear c8
  try clear c8b0
  try clear c8b1
  try clear c9
  try clear c9b0
  try clear c9b1
  try clear c10
  try clear c10b0
  try clear c10b1
  try clear hx122_0
  try clear hx123_0
  try clear hx124_0
  try clear hx125_0
  try clear p122
  try clear p123
  try clear p124
  try clear p125
  try clear q122
  try clear q123
  try clear q124
  try clear q125
  obtain ⟨kq, x35_1, rfl, HA, HJ1, HB⟩ := hcut
  cases kq with
  | zero => exact absurd HA.out (by simp [messuageref08_Table.j0])
  | succ kj1 =>
   have H := HA.out
   clear HA
   simp only [messuageref08_Table.j0] at H
   by_cases c11 : x35_1 = true
   ·
    subst c11
    have H1 : (some (([] : List (S32)), 80)) = some (r1, r2) := by rw [if_pos rfl] at H; exact H
    clear H
    have H := H1
    clear H1
    simp only [Option.some.injEq, Prod.mk.injEq] at H
    obtain ⟨rfl, rfl⟩ := H
    go_wp2
    go_ret2
    exact ⟨_, by first | rfl | (simp [errW_none, errW_some] <;> rfl) | (simp [*, errW_none, errW_some] <;> rfl), by first | exact Kd.R_nil _ _ _ _ _ | exact Kd.N_nil _ _ _ _ _ | exact Kd.V_nil _ _ _ _ _ | exact Kd.Q_nil _ _ _ _ _ | exact Kd.S_nil _ _ _ _ _, by repeat (first | (with_reducible first | exact HB.out | apply below_alloc | apply pw_below_drewN | apply below_drew1) | exact HB.out)⟩
   ·
    replace c11 := Bool.eq_false_iff.mpr c11
    subst c11
    have H1 : (if 4 < (l0.length : Int) then (if (rd l0 4) = 2 then (if 5 < (l0.length : Int) then (if (rd l0 5) = 1 then (if 6 < (l0.length : Int) then (messuageref08_Table.j1 kj1 l0 ((rd l0 6) != 1)) else (none)) else (messuageref08_Table.j1 kj1 l0 true)) else (none)) else (messuageref08_Table.j1 kj1 l0 true)) else (none)) = some (r1, r2) := by rw [if_neg (show ¬ (false = true) by decide)] at H; exact H
    clear H
    have H := H1
    clear H1
    have HC12 := Aside0.mk H
    clear H
    go_upto_region 3 with (fail)
    go_cut [51] (fun v51 wc => ∃ (kq : Nat) (x51_11 : Bool), v51 = .bool x51_11 ∧ Aside0 (messuageref08_Table.j1 kq l0 x51_11 = some (r1, r2)) ∧ Aside0 (kq ≤ kj1) ∧ Aside0 (Below w.heap.size w wc))
    case first =>
     have H := HC12.out
     clear HC12
     by_cases c13 : 4 < (l0.length : Int)
     ·
      rw [if_pos c13] at H
      have c13b0 : decide (4 < (l0.length : Int)) = true := decide_eq_true c13
      have c13b1 : decide (4 < l0.length) = true := decide_eq_true (by omega)
      clear c13
      (first | rw [c13b0] | (simp only [i64_w, i32_w]; rw [c13b0]) | skip)
      (try rw [c13b1])
      by_cases c14 : (rd l0 4) = 2
      ·
       rw [if_pos c14] at H
       have c14b0 : ((rd l0 4) == 2) = true := beq_iff_eq.mpr c14
       have c14b1 : ((rd l0 4) != 2) = false := bne_eq_false_iff_eq.mpr c14
       clear c14
       by_cases c15 : 5 < (l0.length : Int)
       ·
        rw [if_pos c15] at H
        have c15b0 : decide (5 < (l0.length : Int)) = true := decide_eq_true c15
        have c15b1 : decide (5 < l0.length) = true := decide_eq_true (by omega)
        clear c15
        by_cases c16 : (rd l0 5) = 1
        ·
         rw [if_pos c16] at H
         have c16b0 : ((rd l0 5) == 1) = true := beq_iff_eq.mpr c16
         have c16b1 : ((rd l0 5) != 1) = false := bne_eq_false_iff_eq.mpr c16
         clear c16
         by_cases c17 : 6 < (l0.length : Int)
         ·
          rw [if_pos c17] at H
          have c17b0 : decide (6 < (l0.length : Int)) = true := decide_eq_true c17
          have c17b1 : decide (6 < l0.length) = true := decide_eq_true (by omega)
          clear c17
          have H' := Aside0.mk H
          clear H
          have p126 : 0 ≤ (4 : Int) := (by omega)
          have q126 : 4 < (l0.length : Int) := of_decide_eq_true (by first | (with_reducible assumption) | assumption)
          obtain ⟨ad126, e126, hx126_0⟩ := Kd.at_int HR0.out 4 p126 q126
          cases e126
          (try simp only [show (4 : Int).toNat = 4 from rfl, Nat.reduceMul, Nat.reduceEqDiff, Go.Addr.add, ↓reduceIte] at hx126_0)
          have qi126 : (4 < l0.length) = True := eq_true (by omega)
          (try rw [show ((4 : Int)).toNat = 4 from rfl] at hx126_0)
          replace hx126_0 := (HB.out.cell (World.block_lt_of_cell? w _ hx126_0)).trans hx126_0
          replace p126 := eq_true p126
          replace q126 := eq_true q126
          have p127 : 0 ≤ (5 : Int) := (by omega)
          have q127 : 5 < (l0.length : Int) := of_decide_eq_true (by first | (with_reducible assumption) | assumption)
          obtain ⟨ad127, e127, hx127_0⟩ := Kd.at_int HR0.out 5 p127 q127
          obtain rfl : ad126 = ad127 := (by injection e127)
          (try simp only [show (5 : Int).toNat = 5 from rfl, Nat.reduceMul, Nat.reduceEqDiff, Go.Addr.add, ↓reduceIte] at hx127_0)
          have qi127 : (5 < l0.length) = True := eq_true (by omega)
          (try rw [show ((5 : Int)).toNat = 5 from rfl] at hx127_0)
          replace hx127_0 := (HB.out.cell (World.block_lt_of_cell? w _ hx127_0)).trans hx127_0
          replace p127 := eq_true p127
          replace q127 := eq_true q127
          have p128 : 0 ≤ (6 : Int) := (by omega)
          have q128 : 6 < (l0.length : Int) := of_decide_eq_true (by first | (with_reducible assumption) | assumption)
          obtain ⟨ad128, e128, hx128_0⟩ := Kd.at_int HR0.out 6 p128 q128
          obtain rfl : ad126 = ad128 := (by injection e128)
          (try simp only [show (6 : Int).toNat = 6 from rfl, Nat.reduceMul, Nat.reduceEqDiff, Go.Addr.add, ↓reduceIte] at hx128_0)
          have qi128 : (6 < l0.length) = True := eq_true (by omega)
          (try rw [show ((6 : Int)).toNat = 6 from rfl] at hx128_0)
          replace hx128_0 := (HB.out.cell (World.block_lt_of_cell? w _ hx128_0)).trans hx128_0
          replace p128 := eq_true p128
          replace q128 := eq_true q128
          go_wp2
          go_meet
          case rel => exact ⟨_, (((rd l0 6) != 1)), (by first | rfl | (simp; done) | (simp [*]; done)), H', ⟨by have := HJ1.out; first | omega | exact Nat.le_refl _⟩, ⟨by repeat (first | (with_reducible first | exact HB.out | apply below_alloc | apply pw_below_drewN | apply below_drew1) | exact HB.out)⟩⟩
         ·
          rw [if_neg c17] at H
          exact absurd H (by simp)
        ·
         rw [if_neg c16] at H
         have c16b0 : ((rd l0 5) == 1) = false := beq_eq_false_iff_ne.mpr c16
         have c16b1 : ((rd l0 5) != 1) = true := bne_iff_ne.mpr c16
         have H' := Aside0.mk H
         clear H
         have p126 : 0 ≤ (4 : Int) := (by omega)
         have q126 : 4 < (l0.length : Int) := of_decide_eq_true (by first | (with_reducible assumption) | assumption)
         obtain ⟨ad126, e126, hx126_0⟩ := Kd.at_int HR0.out 4 p126 q126
         cases e126
         (try simp only [show (4 : Int).toNat = 4 from rfl, Nat.reduceMul, Nat.reduceEqDiff, Go.Addr.add, ↓reduceIte] at hx126_0)
         have qi126 : (4 < l0.length) = True := eq_true (by omega)
         (try rw [show ((4 : Int)).toNat = 4 from rfl] at hx126_0)
         replace hx126_0 := (HB.out.cell (World.block_lt_of_cell? w _ hx126_0)).trans hx126_0
         replace p126 := eq_true p126
         replace q126 := eq_true q126
         have p127 : 0 ≤ (5 : Int) := (by omega)
         have q127 : 5 < (l0.length : Int) := of_decide_eq_true (by first | (with_reducible assumption) | assumption)
         obtain ⟨ad127, e127, hx127_0⟩ := Kd.at_int HR0.out 5 p127 q127
         obtain rfl : ad126 = ad127 := (by injection e127)
         (try simp only [show (5 : Int).toNat = 5 from rfl, Nat.reduceMul, Nat.reduceEqDiff, Go.Addr.add, ↓reduceIte] at hx127_0)
         have qi127 : (5 < l0.length) = True := eq_true (by omega)
         (try rw [show ((5 : Int)).toNat = 5 from rfl] at hx127_0)
         replace hx127_0 := (HB.out.cell (World.block_lt_of_cell? w _ hx127_0)).trans hx127_0
         replace p127 := eq_true p127
         replace q127 := eq_true q127
         go_wp2
         go_meet
         case rel => exact ⟨_, (true), (by first | rfl | (simp; done) | (simp [*]; done)), H', ⟨by have := HJ1.out; first | omega | exact Nat.le_refl _⟩, ⟨by repeat (first | (with_reducible first | exact HB.out | apply below_alloc | apply pw_below_drewN | apply below_drew1) | exact HB.out)⟩⟩
       ·
        rw [if_neg c15] at H
        exact absurd H (by simp)
      ·
       rw [if_neg c14] at H
       have c14b0 : ((rd l0 4) == 2) = false := beq_eq_false_iff_ne.mpr c14
       have c14b1 : ((rd l0 4) != 2) = true := bne_iff_ne.mpr c14
       have H' := Aside0.mk H
       clear H
       have p126 : 0 ≤ (4 : Int) := (by omega)
       have q126 : 4 < (l0.length : Int) := of_decide_eq_true (by first | (with_reducible assumption) | assumption)
       obtain ⟨ad126, e126, hx126_0⟩ := Kd.at_int HR0.out 4 p126 q126
       cases e126
       (try simp only [show (4 : Int).toNat = 4 from rfl, Nat.reduceMul, Nat.reduceEqDiff, Go.Addr.add, ↓reduceIte] at hx126_0)
       have qi126 : (4 < l0.length) = True := eq_true (by omega)
       (try rw [show ((4 : Int)).toNat = 4 from rfl] at hx126_0)
       replace hx126_0 := (HB.out.cell (World.block_lt_of_cell? w _ hx126_0)).trans hx126_0
       replace p126 := eq_true p126
       replace q126 := eq_true q126
       go_wp2
       go_meet
       case rel => exact ⟨_, (true), (by first | rfl | (simp; done) | (simp [*]; done)), H', ⟨by have := HJ1.out; first | omega | exact Nat.le_refl _⟩, ⟨by repeat (first | (with_reducible first | exact HB.out | apply below_alloc | apply pw_below_drewN | apply below_drew1) | exact HB.out)⟩⟩
     ·
      rw [if_neg c13] at H
      exact absurd H (by simp)
    case rest =>
     clear HC12
     try clear c1
     try clear p1
     try clear q1
     try clear hx1
     try clear qi1
     try clear p2
     try clear c3
     try clear c3b0
     try clear c3b1
     try clear c4
     try clear c4b0
     try clear c4b1
     try clear c5
     try clear c5b0
     try clear c5b1
     try clear c6
     try clear c6b0
     try clear c6b1
     try clear c7
     try clear c7b0
     try clear c7b1
     try clear c8
     try clear c8b0
     try clear c8b1
     try clear c9
     try clear c9b0
     try clear c9b1
     try clear c10
     try clear c10b0
     try clear c10b1
     try clear c11
     try clear c12
     try clear p12
     try clear q12
     try clear hx12
     try clear qi12
     try clear c13
     try clear c13b0
     try clear c13b1
     try clear c14
     try clear c14b0
     try clear c14b1
     try clear c15
     try clear c15b0
     try clear c15b1
     try clear c16
     try clear c16b0
     try clear c16b1
     try clear c17
     try clear c17b0
     try clear c17b1
     try clear hx122_0
     try clear hx123_0
     try clear hx124_0
     try clear hx125_0
     try clear hx126_0
     try clear hx127_0
     try clear hx128_0
     try clear p1
     try clear p122
     try clear p123
     try clear p124
     try clear p125
     try clear p126
     try clear p127
     try clear p128
     try clear p2
     try clear q1
     try clear q122
     try clear q123
     try clear q124
     try clear q125
     try clear q126
     try clear q127
     try clear q128
     obtain ⟨kq, x51_11, rfl, HA, HJ11, HB⟩ := hcut
     cases kq with
     | zero => exact absurd HA.out (by simp [messuageref08_Table.j1])
     | succ kj11 =>
      have H := HA.out
      clear HA
      simp only [messuageref08_Table.j1] at H
      by_cases c18 : x51_11 = true
      ·
       subst c18
       have H1 : (some (([] : List (S32)), 81)) = some (r1, r2) := by rw [if_pos rfl] at H; exact H
       clear H
       have H := H1
       clear H1
       simp only [Option.some.injEq, Prod.mk.injEq] at H
       obtain ⟨rfl, rfl⟩ := H
       go_wp2
       go_ret2
       exact ⟨_, by first | rfl | (simp [errW_none, errW_some] <;> rfl) | (simp [*, errW_none, errW_some] <;> rfl), by first | exact Kd.R_nil _ _ _ _ _ | exact Kd.N_nil _ _ _ _ _ | exact Kd.V_nil _ _ _ _ _ | exact Kd.Q_nil _ _ _ _ _ | exact Kd.S_nil _ _ _ _ _, by repeat (first | (with_reducible first | exact HB.out | apply below_alloc | apply pw_below_drewN | apply below_drew1) | exact HB.out)⟩
      ·
       replace c18 := Bool.eq_false_iff.mpr c18
       subst c18
       have H1 : ((messuageref08_N.f kj11 l0 16 2).bind fun t129 => (if t129 = 3 then ((messuageref08_N.f kj11 l0 18 2).bind fun t130 => (if t130 = 62 then (messuageref08_Table.j2 kj11 l0 false) else ((messuageref08_N.f kj11 l0 18 2).bind fun t131 => (messuageref08_Table.j2 kj11 l0 (t131 != 183))))) else (some (([] : List (S32)), 82)))) = some (r1, r2) := by rw [if_neg (show ¬ (false = true) by decide)] at H; exact H
       clear H
       have H := H1
       clear H1
       replace H := Option.bind_eq_some_iff.mp H
       obtain ⟨t129, A190, H⟩ := H
       replace H : (if t129 = 3 then ((messuageref08_N.f kj11 l0 18 2).bind fun t130 => (if t130 = 62 then (messuageref08_Table.j2 kj11 l0 false) else ((messuageref08_N.f kj11 l0 18 2).bind fun t131 => (messuageref08_Table.j2 kj11 l0 (t131 != 183))))) else (some (([] : List (S32)), 82))) = some (r1, r2) := H
       have A19 := Aside0.mk A190
       clear A190
       by_cases c20 : t129 = 3
       ·
        rw [if_pos c20] at H
        have c20b0 : (t129 == 3) = true := beq_iff_eq.mpr c20
        have c20b1 : (t129 != 3) = false := bne_eq_false_iff_eq.mpr c20
        clear c20
        have HC21 := Aside0.mk H
        clear H
        go_upto_region 7 with (first | ((with_reducible refine gate_callee (f := 17) rfl ?_); refine goesL_ (some 53) rfl rfl Try.func17 (by kernel_rfl) rfl #[.slice A0 l0.length c0, .int .u64 16, .int .i64 2] rfl (by (try simp only [List.map_toArray, List.map_cons, List.map_nil]); first | done | rfl | (simp only [List.length_drop, List.length_take]; rfl)) ?_; (with_reducible refine (messuageref08_N.calls kj11 _ _ l0 16 2 t129 _ ?side1 ?side2 A19.out).mono ?_); (case side1 => repeat (first | exact (Kd.C_below HR0.out HB.out) | (with_reducible refine Kd.C_alloc ?_ _) | (with_reducible refine Kd.C_drewN ?_ _) | (with_reducible refine Kd.C_drew ?_))); (case side2 => exact HC0.out); rintro e w' ⟨rfl, ⟨nd, rfl⟩⟩; refine ⟨_, rfl, ?_⟩))
        (try simp only [Act.put, List.setIfInBounds_toArray, List.set_cons_zero, List.set_cons_succ])
        go_cut [62] (fun v62 wc => ∃ (kq : Nat) (x62_20 : Bool), v62 = .bool x62_20 ∧ Aside0 (messuageref08_Table.j2 kq l0 x62_20 = some (r1, r2)) ∧ Aside0 (kq ≤ kj11) ∧ Aside0 (Below w.heap.size w wc))
        case first =>
         have H := HC21.out
         clear HC21
         replace H := Option.bind_eq_some_iff.mp H
         obtain ⟨t130, A220, H⟩ := H
         replace H : (if t130 = 62 then (messuageref08_Table.j2 kj11 l0 false) else ((messuageref08_N.f kj11 l0 18 2).bind fun t131 => (messuageref08_Table.j2 kj11 l0 (t131 != 183)))) = some (r1, r2) := H
         have A22 := Aside0.mk A220
         clear A220
         by_cases c23 : t130 = 62
         ·
          rw [if_pos c23] at H
          have c23b0 : (t130 == 62) = true := beq_iff_eq.mpr c23
          have c23b1 : (t130 != 62) = false := bne_eq_false_iff_eq.mpr c23
          clear c23
          (first | rw [c23b0] | (simp only [i64_w, i32_w]; rw [c23b0]) | skip)
          have H' := Aside0.mk H
          clear H
          go_wp2_with (first | ((with_reducible refine gate_callee (f := 17) rfl ?_); refine goesL_ (some 56) rfl rfl Try.func17 (by kernel_rfl) rfl #[.slice A0 l0.length c0, .int .u64 18, .int .i64 2] rfl (by (try simp only [List.map_toArray, List.map_cons, List.map_nil]); first | done | rfl | (simp only [List.length_drop, List.length_take]; rfl)) ?_; (with_reducible refine (messuageref08_N.calls kj11 _ _ l0 18 2 t130 _ ?side1 ?side2 A22.out).mono ?_); (case side1 => repeat (first | exact (Kd.C_below HR0.out HB.out) | (with_reducible refine Kd.C_alloc ?_ _) | (with_reducible refine Kd.C_drewN ?_ _) | (with_reducible refine Kd.C_drew ?_))); (case side2 => exact HC0.out); rintro e w' ⟨rfl, ⟨nd, rfl⟩⟩; refine ⟨_, rfl, ?_⟩))
          go_meet
          case rel => exact ⟨_, (false), (by first | rfl | (simp; done) | (simp [*]; done)), H', ⟨by have := HJ1.out; have := HJ11.out; first | omega | exact Nat.le_refl _⟩, ⟨by repeat (first | (with_reducible first | exact HB.out | apply below_alloc | apply pw_below_drewN | apply below_drew1) | exact HB.out)⟩⟩
         ·
          rw [if_neg c23] at H
          have c23b0 : (t130 == 62) = false := beq_eq_false_iff_ne.mpr c23
          have c23b1 : (t130 != 62) = true := bne_iff_ne.mpr c23
          (first | rw [c23b0] | (simp only [i64_w, i32_w]; rw [c23b0]) | skip)
          replace H := Option.bind_eq_some_iff.mp H
          obtain ⟨t131, A240, H⟩ := H
          replace H : (messuageref08_Table.j2 kj11 l0 (t131 != 183)) = some (r1, r2) := H
          have A24 := Aside0.mk A240
          clear A240
          have H' := Aside0.mk H
          clear H
          go_wp2_with (first | ((with_reducible refine gate_callee (f := 17) rfl ?_); refine goesL_ (some 56) rfl rfl Try.func17 (by kernel_rfl) rfl #[.slice A0 l0.length c0, .int .u64 18, .int .i64 2] rfl (by (try simp only [List.map_toArray, List.map_cons, List.map_nil]); first | done | rfl | (simp only [List.length_drop, List.length_take]; rfl)) ?_; (with_reducible refine (messuageref08_N.calls kj11 _ _ l0 18 2 t130 _ ?side1 ?side2 A22.out).mono ?_); (case side1 => repeat (first | exact (Kd.C_below HR0.out HB.out) | (with_reducible refine Kd.C_alloc ?_ _) | (with_reducible refine Kd.C_drewN ?_ _) | (with_reducible refine Kd.C_drew ?_))); (case side2 => exact HC0.out); rintro e w' ⟨rfl, ⟨nd, rfl⟩⟩; refine ⟨_, rfl, ?_⟩) | (go_at_call 17; (with_reducible refine (messuageref08_N.calls kj11 _ _ l0 18 2 t131 _ ?side1 ?side2 A24.out).mono ?_); (case side1 => repeat (first | exact (Kd.C_below HR0.out (by repeat (first | (with_reducible first | exact HB.out | apply below_alloc | apply pw_below_drewN | apply below_drew1) | exact HB.out))) | (with_reducible refine Kd.C_alloc ?_ _) | (with_reducible refine Kd.C_drewN ?_ _) | (with_reducible refine Kd.C_drew ?_))); (case side2 => exact HC0.out); rintro e w' ⟨rfl, ⟨nd, rfl⟩⟩))
          go_meet
          case rel => exact ⟨_, ((t131 != 183)), (by first | rfl | (simp; done) | (simp [*]; done)), H', ⟨by have := HJ1.out; have := HJ11.out; first | omega | exact Nat.le_refl _⟩, ⟨by repeat (first | (with_reducible first | exact HB.out | apply below_alloc | apply pw_below_drewN | apply below_drew1) | exact HB.out)⟩⟩
        case rest =>
         clear HC21
         try clear c1
         try clear p1
         try clear q1
         try clear hx1
         try clear qi1
         try clear c2
         try clear p2
         try clear c3
         try clear c3b0
         try clear c3b1
         try clear c4
         try clear c4b0
         try clear c4b1
         try clear c5
         try clear c5b0
         try clear c5b1
         try clear c6
         try clear c6b0
         try clear c6b1
         try clear c7
         try clear c7b0
         try clear c7b1
         try clear c8
         try clear c8b0
         try clear c8b1
         try clear c9
         try clear c9b0
         try clear c9b1
         try clear c10
         try clear c10b0
         try clear c10b1
         try clear c11
         try clear c12
         try clear p12
         try clear q12
         try clear hx12
         try clear qi12
         try clear c13
         try clear c13b0
         try clear c13b1
         try clear c14
         try clear c14b0
         try clear c14b1
         try clear c15
         try clear c15b0
         try clear c15b1
         try clear c16
         try clear c16b0
         try clear c16b1
         try clear c17
         try clear c17b0
         try clear c17b1
         try clear c18
         try clear c20
         try clear c20b0
         try clear c20b1
         try clear c23
         try clear c23b0
         try clear c23b1
         try clear hx122_0
         try clear hx123_0
         try clear hx124_0
         try clear hx125_0
         try clear hx126_0
         try clear hx127_0
         try clear hx128_0
         try clear p1
         try clear p12
         try clear p122
         try clear p123
         try clear p124
         try clear p125
         try clear p126
         try clear p127
         try clear p128
         try clear p2
         try clear q1
         try clear q12
         try clear q122
         try clear q123
         try clear q124
         try clear q125
         try clear q126
         try clear q127
         try clear q128
         obtain ⟨kq, x62_20, rfl, HA, HJ20, HB⟩ := hcut
         cases kq with
         | zero => exact absurd HA.out (by simp [messuageref08_Table.j2])
         | succ kj20 =>
          have H := HA.out
          clear HA
          simp only [messuageref08_Table.j2] at H
          by_cases c25 : x62_20 = true
          ·
           subst c25
           have H1 : (some (([] : List (S32)), 83)) = some (r1, r2) := by rw [if_pos rfl] at H; exact H
           clear H
           have H := H1
           clear H1
           simp only [Option.some.injEq, Prod.mk.injEq] at H
           obtain ⟨rfl, rfl⟩ := H
           go_wp2
           go_ret2
           exact ⟨_, by first | rfl | (simp [errW_none, errW_some] <;> rfl) | (simp [*, errW_none, errW_some] <;> rfl), by first | exact Kd.R_nil _ _ _ _ _ | exact Kd.N_nil _ _ _ _ _ | exact Kd.V_nil _ _ _ _ _ | exact Kd.Q_nil _ _ _ _ _ | exact Kd.S_nil _ _ _ _ _, by repeat (first | (with_reducible first | exact HB.out | apply below_alloc | apply pw_below_drewN | apply below_drew1) | exact HB.out)⟩
          ·
           replace c25 := Bool.eq_false_iff.mpr c25
           subst c25
           have H1 : ((messuageref08_N.f kj20 l0 32 8).bind fun t132 => ((messuageref08_N.f kj20 l0 56 2).bind fun t133 => ((messuageref08_N.f kj20 l0 52 2).bind fun t134 => (if t134 = 64 then ((messuageref08_N.f kj20 l0 54 2).bind fun t135 => (if t135 = 56 then (if t133 < 1 then (messuageref08_Table.j3 kj20 l0 t132 t133 true) else (if t133 > 16 then (messuageref08_Table.j3 kj20 l0 t132 t133 true) else ((messuageref01_Inside.f t132 (IntKind.u64.wrap (t133 * 56)) 0 (IntKind.u64.wrap ((l0.length : Int)))).bind fun t136 => (messuageref08_Table.j3 kj20 l0 t132 t133 (!t136))))) else (messuageref08_Table.j3 kj20 l0 t132 t133 true))) else (messuageref08_Table.j3 kj20 l0 t132 t133 true))))) = some (r1, r2) := by rw [if_neg (show ¬ (false = true) by decide)] at H; exact H
           clear H
           have H := H1
           clear H1
           replace H := Option.bind_eq_some_iff.mp H
           obtain ⟨t132, A260, H⟩ := H
           replace H : ((messuageref08_N.f kj20 l0 56 2).bind fun t133 => ((messuageref08_N.f kj20 l0 52 2).bind fun t134 => (if t134 = 64 then ((messuageref08_N.f kj20 l0 54 2).bind fun t135 => (if t135 = 56 then (if t133 < 1 then (messuageref08_Table.j3 kj20 l0 t132 t133 true) else (if t133 > 16 then (messuageref08_Table.j3 kj20 l0 t132 t133 true) else ((messuageref01_Inside.f t132 (IntKind.u64.wrap (t133 * 56)) 0 (IntKind.u64.wrap ((l0.length : Int)))).bind fun t136 => (messuageref08_Table.j3 kj20 l0 t132 t133 (!t136))))) else (messuageref08_Table.j3 kj20 l0 t132 t133 true))) else (messuageref08_Table.j3 kj20 l0 t132 t133 true)))) = some (r1, r2) := H
           have A26 := Aside0.mk A260
           clear A260
           replace H := Option.bind_eq_some_iff.mp H
           obtain ⟨t133, A270, H⟩ := H
           replace H : ((messuageref08_N.f kj20 l0 52 2).bind fun t134 => (if t134 = 64 then ((messuageref08_N.f kj20 l0 54 2).bind fun t135 => (if t135 = 56 then (if t133 < 1 then (messuageref08_Table.j3 kj20 l0 t132 t133 true) else (if t133 > 16 then (messuageref08_Table.j3 kj20 l0 t132 t133 true) else ((messuageref01_Inside.f t132 (IntKind.u64.wrap (t133 * 56)) 0 (IntKind.u64.wrap ((l0.length : Int)))).bind fun t136 => (messuageref08_Table.j3 kj20 l0 t132 t133 (!t136))))) else (messuageref08_Table.j3 kj20 l0 t132 t133 true))) else (messuageref08_Table.j3 kj20 l0 t132 t133 true))) = some (r1, r2) := H
           have A27 := Aside0.mk A270
           clear A270
           have HC28 := Aside0.mk H
           clear H
           go_upto_region 10 with (first | ((with_reducible refine gate_callee (f := 17) rfl ?_); refine goesL_ (some 64) rfl rfl Try.func17 (by kernel_rfl) rfl #[.slice A0 l0.length c0, .int .u64 32, .int .i64 8] rfl (by (try simp only [List.map_toArray, List.map_cons, List.map_nil]); first | done | rfl | (simp only [List.length_drop, List.length_take]; rfl)) ?_; (with_reducible refine (messuageref08_N.calls kj20 _ _ l0 32 8 t132 _ ?side1 ?side2 A26.out).mono ?_); (case side1 => repeat (first | exact (Kd.C_below HR0.out HB.out) | (with_reducible refine Kd.C_alloc ?_ _) | (with_reducible refine Kd.C_drewN ?_ _) | (with_reducible refine Kd.C_drew ?_))); (case side2 => exact HC0.out); rintro e w' ⟨rfl, ⟨nd, rfl⟩⟩; refine ⟨_, rfl, ?_⟩) | ((with_reducible refine gate_callee (f := 17) rfl ?_); refine goesL_ (some 66) rfl rfl Try.func17 (by kernel_rfl) rfl #[.slice A0 l0.length c0, .int .u64 56, .int .i64 2] rfl (by (try simp only [List.map_toArray, List.map_cons, List.map_nil]); first | done | rfl | (simp only [List.length_drop, List.length_take]; rfl)) ?_; (with_reducible refine (messuageref08_N.calls kj20 _ _ l0 56 2 t133 _ ?side1 ?side2 A27.out).mono ?_); (case side1 => repeat (first | exact (Kd.C_below HR0.out (by repeat (first | (with_reducible first | exact HB.out | apply below_alloc | apply pw_below_drewN | apply below_drew1) | exact HB.out))) | (with_reducible refine Kd.C_alloc ?_ _) | (with_reducible refine Kd.C_drewN ?_ _) | (with_reducible refine Kd.C_drew ?_))); (case side2 => exact HC0.out); rintro e w' ⟨rfl, ⟨nd, rfl⟩⟩; refine ⟨_, rfl, ?_⟩))
           (try simp only [Act.put, List.setIfInBounds_toArray, List.set_cons_zero, List.set_cons_succ])
           go_cut [92] (fun v92 wc => ∃ (kq : Nat) (x92_27 : Bool), v92 = .bool x92_27 ∧ Aside0 (messuageref08_Table.j3 kq l0 t132 t133 x92_27 = some (r1, r2)) ∧ Aside0 (kq ≤ kj20) ∧ Aside0 (Below w.heap.size w wc))
           case first =>
            have H := HC28.out
            clear HC28
            replace H := Option.bind_eq_some_iff.mp H
            obtain ⟨t134, A290, H⟩ := H
            replace H : (if t134 = 64 then ((messuageref08_N.f kj20 l0 54 2).bind fun t135 => (if t135 = 56 then (if t133 < 1 then (messuageref08_Table.j3 kj20 l0 t132 t133 true) else (if t133 > 16 then (messuageref08_Table.j3 kj20 l0 t132 t133 true) else ((messuageref01_Inside.f t132 (IntKind.u64.wrap (t133 * 56)) 0 (IntKind.u64.wrap ((l0.length : Int)))).bind fun t136 => (messuageref08_Table.j3 kj20 l0 t132 t133 (!t136))))) else (messuageref08_Table.j3 kj20 l0 t132 t133 true))) else (messuageref08_Table.j3 kj20 l0 t132 t133 true)) = some (r1, r2) := H
            have A29 := Aside0.mk A290
            clear A290
            by_cases c30 : t134 = 64
            ·
             rw [if_pos c30] at H
             have c30b0 : (t134 == 64) = true := beq_iff_eq.mpr c30
             have c30b1 : (t134 != 64) = false := bne_eq_false_iff_eq.mpr c30
             clear c30
             (first | rw [c30b0] | (simp only [i64_w, i32_w]; rw [c30b0]) | skip)
             replace H := Option.bind_eq_some_iff.mp H
             obtain ⟨t135, A310, H⟩ := H
             replace H : (if t135 = 56 then (if t133 < 1 then (messuageref08_Table.j3 kj20 l0 t132 t133 true) else (if t133 > 16 then (messuageref08_Table.j3 kj20 l0 t132 t133 true) else ((messuageref01_Inside.f t132 (IntKind.u64.wrap (t133 * 56)) 0 (IntKind.u64.wrap ((l0.length : Int)))).bind fun t136 => (messuageref08_Table.j3 kj20 l0 t132 t133 (!t136))))) else (messuageref08_Table.j3 kj20 l0 t132 t133 true)) = some (r1, r2) := H
             have A31 := Aside0.mk A310
             clear A310
             by_cases c32 : t135 = 56
             ·
              rw [if_pos c32] at H
              have c32b0 : (t135 == 56) = true := beq_iff_eq.mpr c32
              have c32b1 : (t135 != 56) = false := bne_eq_false_iff_eq.mpr c32
              clear c32
              by_cases c33 : t133 < 1
              ·
               rw [if_pos c33] at H
               have c33b0 : decide (t133 < 1) = true := decide_eq_true c33
               clear c33
               have H' := Aside0.mk H
               clear H
               go_wp2_with (first | ((with_reducible refine gate_callee (f := 17) rfl ?_); refine goesL_ (some 68) rfl rfl Try.func17 (by kernel_rfl) rfl #[.slice A0 l0.length c0, .int .u64 52, .int .i64 2] rfl (by (try simp only [List.map_toArray, List.map_cons, List.map_nil]); first | done | rfl | (simp only [List.length_drop, List.length_take]; rfl)) ?_; (with_reducible refine (messuageref08_N.calls kj20 _ _ l0 52 2 t134 _ ?side1 ?side2 A29.out).mono ?_); (case side1 => repeat (first | exact (Kd.C_below HR0.out HB.out) | (with_reducible refine Kd.C_alloc ?_ _) | (with_reducible refine Kd.C_drewN ?_ _) | (with_reducible refine Kd.C_drew ?_))); (case side2 => exact HC0.out); rintro e w' ⟨rfl, ⟨nd, rfl⟩⟩; refine ⟨_, rfl, ?_⟩) | (go_at_call 17; (with_reducible refine (messuageref08_N.calls kj20 _ _ l0 54 2 t135 _ ?side1 ?side2 A31.out).mono ?_); (case side1 => repeat (first | exact (Kd.C_below HR0.out (by repeat (first | (with_reducible first | exact HB.out | apply below_alloc | apply pw_below_drewN | apply below_drew1) | exact HB.out))) | (with_reducible refine Kd.C_alloc ?_ _) | (with_reducible refine Kd.C_drewN ?_ _) | (with_reducible refine Kd.C_drew ?_))); (case side2 => exact HC0.out); rintro e w' ⟨rfl, ⟨nd, rfl⟩⟩))
               go_meet
               case rel => exact ⟨_, (true), (by first | rfl | (simp; done) | (simp [*]; done)), H', ⟨by have := HJ1.out; have := HJ11.out; have := HJ20.out; first | omega | exact Nat.le_refl _⟩, ⟨by repeat (first | (with_reducible first | exact HB.out | apply below_alloc | apply pw_below_drewN | apply below_drew1) | exact HB.out)⟩⟩
              ·
               rw [if_neg c33] at H
               have c33b0 : decide (t133 < 1) = false := decide_eq_false c33
               clear c33
               by_cases c34 : t133 > 16
               ·
                rw [if_pos c34] at H
                have c34b0 : decide (16 < t133) = true := decide_eq_true c34
                clear c34
                have H' := Aside0.mk H
                clear H
                go_wp2_with (first | ((with_reducible refine gate_callee (f := 17) rfl ?_); refine goesL_ (some 68) rfl rfl Try.func17 (by kernel_rfl) rfl #[.slice A0 l0.length c0, .int .u64 52, .int .i64 2] rfl (by (try simp only [List.map_toArray, List.map_cons, List.map_nil]); first | done | rfl | (simp only [List.length_drop, List.length_take]; rfl)) ?_; (with_reducible refine (messuageref08_N.calls kj20 _ _ l0 52 2 t134 _ ?side1 ?side2 A29.out).mono ?_); (case side1 => repeat (first | exact (Kd.C_below HR0.out HB.out) | (with_reducible refine Kd.C_alloc ?_ _) | (with_reducible refine Kd.C_drewN ?_ _) | (with_reducible refine Kd.C_drew ?_))); (case side2 => exact HC0.out); rintro e w' ⟨rfl, ⟨nd, rfl⟩⟩; refine ⟨_, rfl, ?_⟩) | (go_at_call 17; (with_reducible refine (messuageref08_N.calls kj20 _ _ l0 54 2 t135 _ ?side1 ?side2 A31.out).mono ?_); (case side1 => repeat (first | exact (Kd.C_below HR0.out (by repeat (first | (with_reducible first | exact HB.out | apply below_alloc | apply pw_below_drewN | apply below_drew1) | exact HB.out))) | (with_reducible refine Kd.C_alloc ?_ _) | (with_reducible refine Kd.C_drewN ?_ _) | (with_reducible refine Kd.C_drew ?_))); (case side2 => exact HC0.out); rintro e w' ⟨rfl, ⟨nd, rfl⟩⟩))
                go_meet
                case rel => exact ⟨_, (true), (by first | rfl | (simp; done) | (simp [*]; done)), H', ⟨by have := HJ1.out; have := HJ11.out; have := HJ20.out; first | omega | exact Nat.le_refl _⟩, ⟨by repeat (first | (with_reducible first | exact HB.out | apply below_alloc | apply pw_below_drewN | apply below_drew1) | exact HB.out)⟩⟩
               ·
                rw [if_neg c34] at H
                have c34b0 : decide (16 < t133) = false := decide_eq_false c34
                clear c34
                replace H := Option.bind_eq_some_iff.mp H
                obtain ⟨t136, A350, H⟩ := H
                replace H : (messuageref08_Table.j3 kj20 l0 t132 t133 (!t136)) = some (r1, r2) := H
                have A35 := Aside0.mk A350
                clear A350
                have H' := Aside0.mk H
                clear H
                go_wp2_with (first | ((with_reducible refine gate_callee (f := 17) rfl ?_); refine goesL_ (some 68) rfl rfl Try.func17 (by kernel_rfl) rfl #[.slice A0 l0.length c0, .int .u64 52, .int .i64 2] rfl (by (try simp only [List.map_toArray, List.map_cons, List.map_nil]); first | done | rfl | (simp only [List.length_drop, List.length_take]; rfl)) ?_; (with_reducible refine (messuageref08_N.calls kj20 _ _ l0 52 2 t134 _ ?side1 ?side2 A29.out).mono ?_); (case side1 => repeat (first | exact (Kd.C_below HR0.out HB.out) | (with_reducible refine Kd.C_alloc ?_ _) | (with_reducible refine Kd.C_drewN ?_ _) | (with_reducible refine Kd.C_drew ?_))); (case side2 => exact HC0.out); rintro e w' ⟨rfl, ⟨nd, rfl⟩⟩; refine ⟨_, rfl, ?_⟩) | (go_at_call 17; (with_reducible refine (messuageref08_N.calls kj20 _ _ l0 54 2 t135 _ ?side1 ?side2 A31.out).mono ?_); (case side1 => repeat (first | exact (Kd.C_below HR0.out (by repeat (first | (with_reducible first | exact HB.out | apply below_alloc | apply pw_below_drewN | apply below_drew1) | exact HB.out))) | (with_reducible refine Kd.C_alloc ?_ _) | (with_reducible refine Kd.C_drewN ?_ _) | (with_reducible refine Kd.C_drew ?_))); (case side2 => exact HC0.out); rintro e w' ⟨rfl, ⟨nd, rfl⟩⟩) | (go_at_call 41; (with_reducible refine (messuageref01_Inside.calls t132 (IntKind.u64.wrap (t133 * 56)) 0 (IntKind.u64.wrap ((l0.length : Int))) t136 _ A35.out).mono ?_); rintro e w36 ⟨rfl, hb⟩; have n0_ := Aside0.mk (below_step (by repeat (first | (with_reducible first | exact HB.out | apply below_alloc | apply pw_below_drewN | apply below_drew1) | exact HB.out)) hb); clear HB; have HB := n0_; clear n0_; (try clear hb); (try clear hb2); (try clear hk); (try clear hi)))
                go_meet
                case rel => exact ⟨_, (!t136), (by first | rfl | (simp; done) | (simp [*]; done)), H', ⟨by have := HJ1.out; have := HJ11.out; have := HJ20.out; first | omega | exact Nat.le_refl _⟩, ⟨by repeat (first | (with_reducible first | exact HB.out | apply below_alloc | apply pw_below_drewN | apply below_drew1) | exact HB.out)⟩⟩
             ·
              rw [if_neg c32] at H
              have c32b0 : (t135 == 56) = false := beq_eq_false_iff_ne.mpr c32
              have c32b1 : (t135 != 56) = true := bne_iff_ne.mpr c32
              have H' := Aside0.mk H
              clear H
              go_wp2_with (first | ((with_reducible refine gate_callee (f := 17) rfl ?_); refine goesL_ (some 68) rfl rfl Try.func17 (by kernel_rfl) rfl #[.slice A0 l0.length c0, .int .u64 52, .int .i64 2] rfl (by (try simp only [List.map_toArray, List.map_cons, List.map_nil]); first | done | rfl | (simp only [List.length_drop, List.length_take]; rfl)) ?_; (with_reducible refine (messuageref08_N.calls kj20 _ _ l0 52 2 t134 _ ?side1 ?side2 A29.out).mono ?_); (case side1 => repeat (first | exact (Kd.C_below HR0.out HB.out) | (with_reducible refine Kd.C_alloc ?_ _) | (with_reducible refine Kd.C_drewN ?_ _) | (with_reducible refine Kd.C_drew ?_))); (case side2 => exact HC0.out); rintro e w' ⟨rfl, ⟨nd, rfl⟩⟩; refine ⟨_, rfl, ?_⟩) | (go_at_call 17; (with_reducible refine (messuageref08_N.calls kj20 _ _ l0 54 2 t135 _ ?side1 ?side2 A31.out).mono ?_); (case side1 => repeat (first | exact (Kd.C_below HR0.out (by repeat (first | (with_reducible first | exact HB.out | apply below_alloc | apply pw_below_drewN | apply below_drew1) | exact HB.out))) | (with_reducible refine Kd.C_alloc ?_ _) | (with_reducible refine Kd.C_drewN ?_ _) | (with_reducible refine Kd.C_drew ?_))); (case side2 => exact HC0.out); rintro e w' ⟨rfl, ⟨nd, rfl⟩⟩))
              go_meet
              case rel => exact ⟨_, (true), (by first | rfl | (simp; done) | (simp [*]; done)), H', ⟨by have := HJ1.out; have := HJ11.out; have := HJ20.out; first | omega | exact Nat.le_refl _⟩, ⟨by repeat (first | (with_reducible first | exact HB.out | apply below_alloc | apply pw_below_drewN | apply below_drew1) | exact HB.out)⟩⟩
            ·
             rw [if_neg c30] at H
             have c30b0 : (t134 == 64) = false := beq_eq_false_iff_ne.mpr c30
             have c30b1 : (t134 != 64) = true := bne_iff_ne.mpr c30
             (first | rw [c30b0] | (simp only [i64_w, i32_w]; rw [c30b0]) | skip)
             have H' := Aside0.mk H
             clear H
             go_wp2_with (first | ((with_reducible refine gate_callee (f := 17) rfl ?_); refine goesL_ (some 68) rfl rfl Try.func17 (by kernel_rfl) rfl #[.slice A0 l0.length c0, .int .u64 52, .int .i64 2] rfl (by (try simp only [List.map_toArray, List.map_cons, List.map_nil]); first | done | rfl | (simp only [List.length_drop, List.length_take]; rfl)) ?_; (with_reducible refine (messuageref08_N.calls kj20 _ _ l0 52 2 t134 _ ?side1 ?side2 A29.out).mono ?_); (case side1 => repeat (first | exact (Kd.C_below HR0.out HB.out) | (with_reducible refine Kd.C_alloc ?_ _) | (with_reducible refine Kd.C_drewN ?_ _) | (with_reducible refine Kd.C_drew ?_))); (case side2 => exact HC0.out); rintro e w' ⟨rfl, ⟨nd, rfl⟩⟩; refine ⟨_, rfl, ?_⟩))
             go_meet
             case rel => exact ⟨_, (true), (by first | rfl | (simp; done) | (simp [*]; done)), H', ⟨by have := HJ1.out; have := HJ11.out; have := HJ20.out; first | omega | exact Nat.le_refl _⟩, ⟨by repeat (first | (with_reducible first | exact HB.out | apply below_alloc | apply pw_below_drewN | apply below_drew1) | exact HB.out)⟩⟩
           case rest =>
            clear HC28
            try clear c1
            try clear p1
            try clear q1
            try clear hx1
            try clear qi1
            try clear c2
            try clear p2
            try clear c3
            try clear c3b0
            try clear c3b1
            try clear c4
            try clear c4b0
            try clear c4b1
            try clear c5
            try clear c5b0
            try clear c5b1
            try clear c6
            try clear c6b0
            try clear c6b1
            try clear c7
            try clear c7b0
            try clear c7b1
            try clear c8
            try clear c8b0
            try clear c8b1
            try clear c9
            try clear c9b0
            try clear c9b1
            try clear c10
            try clear c10b0
            try clear c10b1
            try clear c11
            try clear c12
            try clear p12
            try clear q12
            try clear hx12
            try clear qi12
            try clear c13
            try clear c13b0
            try clear c13b1
            try clear c14
            try clear c14b0
            try clear c14b1
            try clear c15
            try clear c15b0
            try clear c15b1
            try clear c16
            try clear c16b0
            try clear c16b1
            try clear c17
            try clear c17b0
            try clear c17b1
            try clear c18
            try clear c20
            try clear c20b0
            try clear c20b1
            try clear c23
            try clear c23b0
            try clear c23b1
            try clear c25
            try clear c30
            try clear c30b0
            try clear c30b1
            try clear c32
            try clear c32b0
            try clear c32b1
            try clear c33
            try clear c33b0
            try clear c34
            try clear c34b0
            try clear hx122_0
            try clear hx123_0
            try clear hx124_0
            try clear hx125_0
            try clear hx126_0
            try clear hx127_0
            try clear hx128_0
            try clear p1
            try clear p12
            try clear p122
            try clear p123
            try clear p124
            try clear p125
            try clear p126
            try clear p127
            try clear p128
            try clear p2
            try clear q1
            try clear q12
            try clear q122
            try clear q123
            try clear q124
            try clear q125
            try clear q126
            try clear q127
            try clear q128
            obtain ⟨kq, x92_27, rfl, HA, HJ27, HB⟩ := hcut
            cases kq with
            | zero => exact absurd HA.out (by simp [messuageref08_Table.j3])
            | succ kj27 =>
             have H := HA.out
             clear HA
             simp only [messuageref08_Table.j3] at H
             by_cases c37 : x92_27 = true
             ·
              subst c37
              have H1 : (some (([] : List (S32)), 84)) = some (r1, r2) := by rw [if_pos rfl] at H; exact H
              clear H
              have H := H1
              clear H1
              simp only [Option.some.injEq, Prod.mk.injEq] at H
              obtain ⟨rfl, rfl⟩ := H
              go_wp2
              go_ret2
              exact ⟨_, by first | rfl | (simp [errW_none, errW_some] <;> rfl) | (simp [*, errW_none, errW_some] <;> rfl), by first | exact Kd.R_nil _ _ _ _ _ | exact Kd.N_nil _ _ _ _ _ | exact Kd.V_nil _ _ _ _ _ | exact Kd.Q_nil _ _ _ _ _ | exact Kd.S_nil _ _ _ _ _, by repeat (first | (with_reducible first | exact HB.out | apply below_alloc | apply pw_below_drewN | apply below_drew1) | exact HB.out)⟩
             ·
              replace c37 := Bool.eq_false_iff.mpr c37
              subst c37
              have H1 : (messuageref08_Table.l0 kj27 l0 t132 t133 ([] : List (S32)) 0) = some (r1, r2) := by rw [if_neg (show ¬ (false = true) by decide)] at H; exact H
              clear H
              have H := H1
              clear H1
              have H' := Aside0.mk H
              clear H
              go_wp2
              go_loopg [6, 7] kj27 (fun kq v6 v7 w' => ∃ (x6_5 : List (S32)) (x7_5 : Int), v7 = .int .u64 x7_5 ∧ Aside0 (messuageref08_Table.l0 kq l0 t132 t133 x6_5 x7_5 = some (r1, r2)) ∧ Aside0 (kq ≤ kj27) ∧ Aside0 (Kd.R k32 32 w' w.heap.size (fun _ => True) v6 x6_5) ∧ Aside0 (Below w.heap.size w w'))
              case atStart => exact ⟨(([] : List (S32))), (0), (by first | rfl | (simp; done) | (simp [*]; done)), H', ⟨Nat.le_refl _⟩, ⟨by first | exact Kd.R_nil _ _ _ _ _ | exact Kd.N_nil _ _ _ _ _ | exact Kd.V_nil _ _ _ _ _ | exact Kd.Q_nil _ _ _ _ _ | exact Kd.S_nil _ _ _ _ _⟩, ⟨by repeat (first | (with_reducible first | exact HB.out | apply below_alloc | apply pw_below_drewN | apply below_drew1) | exact HB.out)⟩⟩
              case round =>
               clear H'
               try clear c1
               try clear p1
               try clear q1
               try clear hx1
               try clear qi1
               try clear c2
               try clear p2
               try clear c3
               try clear c3b0
               try clear c3b1
               try clear c4
               try clear c4b0
               try clear c4b1
               try clear c5
               try clear c5b0
               try clear c5b1
               try clear c6
               try clear c6b0
               try clear c6b1
               try clear c7
               try clear c7b0
               try clear c7b1
               try clear c8
               try clear c8b0
               try clear c8b1
               try clear c9
               try clear c9b0
               try clear c9b1
               try clear c10
               try clear c10b0
               try clear c10b1
               try clear c11
               try clear c12
               try clear p12
               try clear q12
               try clear hx12
               try clear qi12
               try clear c13
               try clear c13b0
               try clear c13b1
               try clear c14
               try clear c14b0
               try clear c14b1
               try clear c15
               try clear c15b0
               try clear c15b1
               try clear c16
               try clear c16b0
               try clear c16b1
               try clear c17
               try clear c17b0
               try clear c17b1
               try clear c18
               try clear c20
               try clear c20b0
               try clear c20b1
               try clear c23
               try clear c23b0
               try clear c23b1
               try clear c25
               try clear c30
               try clear c30b0
               try clear c30b1
               try clear c32
               try clear c32b0
               try clear c32b1
               try clear c33
               try clear c33b0
               try clear c34
               try clear c34b0
               try clear c37
               try clear hx122_0
               try clear hx123_0
               try clear hx124_0
               try clear hx125_0
               try clear hx126_0
               try clear hx127_0
               try clear hx128_0
               try clear p1
               try clear p12
               try clear p122
               try clear p123
               try clear p124
               try clear p125
               try clear p126
               try clear p127
               try clear p128
               try clear p2
               try clear q1
               try clear q12
               try clear q122
               try clear q123
               try clear q124
               try clear q125
               try clear q126
               try clear q127
               try clear q128
               obtain ⟨x6_5, x7_5, rfl, HA, HK5, HO_6, HB⟩ := hrel
               cases gk with
               | zero => exact absurd HA.out (by simp [messuageref08_Table.l0])
               | succ k5 =>
                have H := HA.out
                clear HA
                simp only [messuageref08_Table.l0] at H
                by_cases c38 : x7_5 < t133
                ·
                 rw [if_pos c38] at H
                 have c38b0 : decide (x7_5 < t133) = true := decide_eq_true c38
                 clear c38
                 replace H := Option.bind_eq_some_iff.mp H
                 obtain ⟨t137, A390, H⟩ := H
                 replace H : ((messuageref08_N.f k5 l0 (IntKind.u64.wrap ((IntKind.u64.wrap (t132 + (IntKind.u64.wrap (x7_5 * 56)))) + 4)) 4).bind fun t138 => ((messuageref08_N.f k5 l0 (IntKind.u64.wrap ((IntKind.u64.wrap (t132 + (IntKind.u64.wrap (x7_5 * 56)))) + 8)) 8).bind fun t139 => ((messuageref08_N.f k5 l0 (IntKind.u64.wrap ((IntKind.u64.wrap (t132 + (IntKind.u64.wrap (x7_5 * 56)))) + 16)) 8).bind fun t140 => ((messuageref08_N.f k5 l0 (IntKind.u64.wrap ((IntKind.u64.wrap (t132 + (IntKind.u64.wrap (x7_5 * 56)))) + 32)) 8).bind fun t141 => ((messuageref08_N.f k5 l0 (IntKind.u64.wrap ((IntKind.u64.wrap (t132 + (IntKind.u64.wrap (x7_5 * 56)))) + 40)) 8).bind fun t142 => ((messuageref08_N.f k5 l0 (IntKind.u64.wrap ((IntKind.u64.wrap (t132 + (IntKind.u64.wrap (x7_5 * 56)))) + 48)) 8).bind fun t143 => (if x6_5.length < 2932031007402 then (messuageref08_Table.l0 k5 l0 t132 t133 (x6_5 ++ [(⟨(t137) % 4294967296, (t138) % 4294967296, t139, t140, t141, t142, t143⟩ : S32)]) (IntKind.u64.wrap (x7_5 + 1))) else (none)))))))) = some (r1, r2) := H
                 have A39 := Aside0.mk A390
                 clear A390
                 replace H := Option.bind_eq_some_iff.mp H
                 obtain ⟨t138, A400, H⟩ := H
                 replace H : ((messuageref08_N.f k5 l0 (IntKind.u64.wrap ((IntKind.u64.wrap (t132 + (IntKind.u64.wrap (x7_5 * 56)))) + 8)) 8).bind fun t139 => ((messuageref08_N.f k5 l0 (IntKind.u64.wrap ((IntKind.u64.wrap (t132 + (IntKind.u64.wrap (x7_5 * 56)))) + 16)) 8).bind fun t140 => ((messuageref08_N.f k5 l0 (IntKind.u64.wrap ((IntKind.u64.wrap (t132 + (IntKind.u64.wrap (x7_5 * 56)))) + 32)) 8).bind fun t141 => ((messuageref08_N.f k5 l0 (IntKind.u64.wrap ((IntKind.u64.wrap (t132 + (IntKind.u64.wrap (x7_5 * 56)))) + 40)) 8).bind fun t142 => ((messuageref08_N.f k5 l0 (IntKind.u64.wrap ((IntKind.u64.wrap (t132 + (IntKind.u64.wrap (x7_5 * 56)))) + 48)) 8).bind fun t143 => (if x6_5.length < 2932031007402 then (messuageref08_Table.l0 k5 l0 t132 t133 (x6_5 ++ [(⟨(t137) % 4294967296, (t138) % 4294967296, t139, t140, t141, t142, t143⟩ : S32)]) (IntKind.u64.wrap (x7_5 + 1))) else (none))))))) = some (r1, r2) := H
                 have A40 := Aside0.mk A400
                 clear A400
                 replace H := Option.bind_eq_some_iff.mp H
                 obtain ⟨t139, A410, H⟩ := H
                 replace H : ((messuageref08_N.f k5 l0 (IntKind.u64.wrap ((IntKind.u64.wrap (t132 + (IntKind.u64.wrap (x7_5 * 56)))) + 16)) 8).bind fun t140 => ((messuageref08_N.f k5 l0 (IntKind.u64.wrap ((IntKind.u64.wrap (t132 + (IntKind.u64.wrap (x7_5 * 56)))) + 32)) 8).bind fun t141 => ((messuageref08_N.f k5 l0 (IntKind.u64.wrap ((IntKind.u64.wrap (t132 + (IntKind.u64.wrap (x7_5 * 56)))) + 40)) 8).bind fun t142 => ((messuageref08_N.f k5 l0 (IntKind.u64.wrap ((IntKind.u64.wrap (t132 + (IntKind.u64.wrap (x7_5 * 56)))) + 48)) 8).bind fun t143 => (if x6_5.length < 2932031007402 then (messuageref08_Table.l0 k5 l0 t132 t133 (x6_5 ++ [(⟨(t137) % 4294967296, (t138) % 4294967296, t139, t140, t141, t142, t143⟩ : S32)]) (IntKind.u64.wrap (x7_5 + 1))) else (none)))))) = some (r1, r2) := H
                 have A41 := Aside0.mk A410
                 clear A410
                 replace H := Option.bind_eq_some_iff.mp H
                 obtain ⟨t140, A420, H⟩ := H
                 replace H : ((messuageref08_N.f k5 l0 (IntKind.u64.wrap ((IntKind.u64.wrap (t132 + (IntKind.u64.wrap (x7_5 * 56)))) + 32)) 8).bind fun t141 => ((messuageref08_N.f k5 l0 (IntKind.u64.wrap ((IntKind.u64.wrap (t132 + (IntKind.u64.wrap (x7_5 * 56)))) + 40)) 8).bind fun t142 => ((messuageref08_N.f k5 l0 (IntKind.u64.wrap ((IntKind.u64.wrap (t132 + (IntKind.u64.wrap (x7_5 * 56)))) + 48)) 8).bind fun t143 => (if x6_5.length < 2932031007402 then (messuageref08_Table.l0 k5 l0 t132 t133 (x6_5 ++ [(⟨(t137) % 4294967296, (t138) % 4294967296, t139, t140, t141, t142, t143⟩ : S32)]) (IntKind.u64.wrap (x7_5 + 1))) else (none))))) = some (r1, r2) := H
                 have A42 := Aside0.mk A420
                 clear A420
                 replace H := Option.bind_eq_some_iff.mp H
                 obtain ⟨t141, A430, H⟩ := H
                 replace H : ((messuageref08_N.f k5 l0 (IntKind.u64.wrap ((IntKind.u64.wrap (t132 + (IntKind.u64.wrap (x7_5 * 56)))) + 40)) 8).bind fun t142 => ((messuageref08_N.f k5 l0 (IntKind.u64.wrap ((IntKind.u64.wrap (t132 + (IntKind.u64.wrap (x7_5 * 56)))) + 48)) 8).bind fun t143 => (if x6_5.length < 2932031007402 then (messuageref08_Table.l0 k5 l0 t132 t133 (x6_5 ++ [(⟨(t137) % 4294967296, (t138) % 4294967296, t139, t140, t141, t142, t143⟩ : S32)]) (IntKind.u64.wrap (x7_5 + 1))) else (none)))) = some (r1, r2) := H
                 have A43 := Aside0.mk A430
                 clear A430
                 replace H := Option.bind_eq_some_iff.mp H
                 obtain ⟨t142, A440, H⟩ := H
                 replace H : ((messuageref08_N.f k5 l0 (IntKind.u64.wrap ((IntKind.u64.wrap (t132 + (IntKind.u64.wrap (x7_5 * 56)))) + 48)) 8).bind fun t143 => (if x6_5.length < 2932031007402 then (messuageref08_Table.l0 k5 l0 t132 t133 (x6_5 ++ [(⟨(t137) % 4294967296, (t138) % 4294967296, t139, t140, t141, t142, t143⟩ : S32)]) (IntKind.u64.wrap (x7_5 + 1))) else (none))) = some (r1, r2) := H
                 have A44 := Aside0.mk A440
                 clear A440
                 replace H := Option.bind_eq_some_iff.mp H
                 obtain ⟨t143, A450, H⟩ := H
                 replace H : (if x6_5.length < 2932031007402 then (messuageref08_Table.l0 k5 l0 t132 t133 (x6_5 ++ [(⟨(t137) % 4294967296, (t138) % 4294967296, t139, t140, t141, t142, t143⟩ : S32)]) (IntKind.u64.wrap (x7_5 + 1))) else (none)) = some (r1, r2) := H
                 have A45 := Aside0.mk A450
                 clear A450
                 by_cases c46 : x6_5.length < 2932031007402
                 ·
                  rw [if_pos c46] at H
                  have LMc46 := Aside0.mk c46
                  clear c46
                  obtain ⟨y144, hy144⟩ : ∃ y_ : List (S32), y_ = (x6_5 ++ [(⟨(t137) % 4294967296, (t138) % 4294967296, t139, t140, t141, t142, t143⟩ : S32)]) := ⟨_, rfl⟩
                  replace H : (messuageref08_Table.l0 k5 l0 t132 t133 y144 (IntKind.u64.wrap (x7_5 + 1))) = some (r1, r2) := by first | (rw [hy144]; with_reducible exact H) | (have H2_ := (Option.bind_some _ _).symm.trans H; rw [hy144]; with_reducible exact H2_) | (have H2_ := (Option.bind_some _ _).symm.trans H; with_reducible exact H2_) | with_reducible exact H | (rw [hy144]; exact H) | exact H
                  have Ny144 := Aside0.mk hy144
                  clear hy144
                  have H' := Aside0.mk H
                  clear H
                  go_wp2_with (first | ((with_reducible refine gate_callee (f := 17) rfl ?_); refine goesL_ (some 105) rfl rfl Try.func17 (by kernel_rfl) rfl #[.slice A0 l0.length c0, .int .u64 (IntKind.u64.wrap (t132 + (IntKind.u64.wrap (x7_5 * 56)))), .int .i64 4] rfl (by (try simp only [List.map_toArray, List.map_cons, List.map_nil]); first | done | rfl | (simp only [List.length_drop, List.length_take]; rfl)) ?_; (with_reducible refine (messuageref08_N.calls k5 _ _ l0 (IntKind.u64.wrap (t132 + (IntKind.u64.wrap (x7_5 * 56)))) 4 t137 _ ?side1 ?side2 A39.out).mono ?_); (case side1 => repeat (first | exact (Kd.C_below HR0.out HB.out) | (with_reducible refine Kd.C_alloc ?_ _) | (with_reducible refine Kd.C_drewN ?_ _) | (with_reducible refine Kd.C_drew ?_))); (case side2 => exact HC0.out); rintro e w' ⟨rfl, ⟨nd, rfl⟩⟩; refine ⟨_, rfl, ?_⟩) | ((with_reducible refine gate_callee (f := 17) rfl ?_); refine goesL_ (some 110) rfl rfl Try.func17 (by kernel_rfl) rfl #[.slice A0 l0.length c0, .int .u64 (IntKind.u64.wrap ((IntKind.u64.wrap (t132 + (IntKind.u64.wrap (x7_5 * 56)))) + 4)), .int .i64 4] rfl (by (try simp only [List.map_toArray, List.map_cons, List.map_nil]); first | done | rfl | (simp only [List.length_drop, List.length_take]; rfl)) ?_; (with_reducible refine (messuageref08_N.calls k5 _ _ l0 (IntKind.u64.wrap ((IntKind.u64.wrap (t132 + (IntKind.u64.wrap (x7_5 * 56)))) + 4)) 4 t138 _ ?side1 ?side2 A40.out).mono ?_); (case side1 => repeat (first | exact (Kd.C_below HR0.out (by repeat (first | (with_reducible first | exact HB.out | apply below_alloc | apply pw_below_drewN | apply below_drew1) | exact HB.out))) | (with_reducible refine Kd.C_alloc ?_ _) | (with_reducible refine Kd.C_drewN ?_ _) | (with_reducible refine Kd.C_drew ?_))); (case side2 => exact HC0.out); rintro e w' ⟨rfl, ⟨nd, rfl⟩⟩; refine ⟨_, rfl, ?_⟩) | ((with_reducible refine gate_callee (f := 17) rfl ?_); refine goesL_ (some 115) rfl rfl Try.func17 (by kernel_rfl) rfl #[.slice A0 l0.length c0, .int .u64 (IntKind.u64.wrap ((IntKind.u64.wrap (t132 + (IntKind.u64.wrap (x7_5 * 56)))) + 8)), .int .i64 8] rfl (by (try simp only [List.map_toArray, List.map_cons, List.map_nil]); first | done | rfl | (simp only [List.length_drop, List.length_take]; rfl)) ?_; (with_reducible refine (messuageref08_N.calls k5 _ _ l0 (IntKind.u64.wrap ((IntKind.u64.wrap (t132 + (IntKind.u64.wrap (x7_5 * 56)))) + 8)) 8 t139 _ ?side1 ?side2 A41.out).mono ?_); (case side1 => repeat (first | exact (Kd.C_below HR0.out (by repeat (first | (with_reducible first | exact HB.out | apply below_alloc | apply pw_below_drewN | apply below_drew1) | exact HB.out))) | (with_reducible refine Kd.C_alloc ?_ _) | (with_reducible refine Kd.C_drewN ?_ _) | (with_reducible refine Kd.C_drew ?_))); (case side2 => exact HC0.out); rintro e w' ⟨rfl, ⟨nd, rfl⟩⟩; refine ⟨_, rfl, ?_⟩) | ((with_reducible refine gate_callee (f := 17) rfl ?_); refine goesL_ (some 119) rfl rfl Try.func17 (by kernel_rfl) rfl #[.slice A0 l0.length c0, .int .u64 (IntKind.u64.wrap ((IntKind.u64.wrap (t132 + (IntKind.u64.wrap (x7_5 * 56)))) + 16)), .int .i64 8] rfl (by (try simp only [List.map_toArray, List.map_cons, List.map_nil]); first | done | rfl | (simp only [List.length_drop, List.length_take]; rfl)) ?_; (with_reducible refine (messuageref08_N.calls k5 _ _ l0 (IntKind.u64.wrap ((IntKind.u64.wrap (t132 + (IntKind.u64.wrap (x7_5 * 56)))) + 16)) 8 t140 _ ?side1 ?side2 A42.out).mono ?_); (case side1 => repeat (first | exact (Kd.C_below HR0.out (by repeat (first | (with_reducible first | exact HB.out | apply below_alloc | apply pw_below_drewN | apply below_drew1) | exact HB.out))) | (with_reducible refine Kd.C_alloc ?_ _) | (with_reducible refine Kd.C_drewN ?_ _) | (with_reducible refine Kd.C_drew ?_))); (case side2 => exact HC0.out); rintro e w' ⟨rfl, ⟨nd, rfl⟩⟩; refine ⟨_, rfl, ?_⟩) | ((with_reducible refine gate_callee (f := 17) rfl ?_); refine goesL_ (some 123) rfl rfl Try.func17 (by kernel_rfl) rfl #[.slice A0 l0.length c0, .int .u64 (IntKind.u64.wrap ((IntKind.u64.wrap (t132 + (IntKind.u64.wrap (x7_5 * 56)))) + 32)), .int .i64 8] rfl (by (try simp only [List.map_toArray, List.map_cons, List.map_nil]); first | done | rfl | (simp only [List.length_drop, List.length_take]; rfl)) ?_; (with_reducible refine (messuageref08_N.calls k5 _ _ l0 (IntKind.u64.wrap ((IntKind.u64.wrap (t132 + (IntKind.u64.wrap (x7_5 * 56)))) + 32)) 8 t141 _ ?side1 ?side2 A43.out).mono ?_); (case side1 => repeat (first | exact (Kd.C_below HR0.out (by repeat (first | (with_reducible first | exact HB.out | apply below_alloc | apply pw_below_drewN | apply below_drew1) | exact HB.out))) | (with_reducible refine Kd.C_alloc ?_ _) | (with_reducible refine Kd.C_drewN ?_ _) | (with_reducible refine Kd.C_drew ?_))); (case side2 => exact HC0.out); rintro e w' ⟨rfl, ⟨nd, rfl⟩⟩; refine ⟨_, rfl, ?_⟩) | ((with_reducible refine gate_callee (f := 17) rfl ?_); refine goesL_ (some 127) rfl rfl Try.func17 (by kernel_rfl) rfl #[.slice A0 l0.length c0, .int .u64 (IntKind.u64.wrap ((IntKind.u64.wrap (t132 + (IntKind.u64.wrap (x7_5 * 56)))) + 40)), .int .i64 8] rfl (by (try simp only [List.map_toArray, List.map_cons, List.map_nil]); first | done | rfl | (simp only [List.length_drop, List.length_take]; rfl)) ?_; (with_reducible refine (messuageref08_N.calls k5 _ _ l0 (IntKind.u64.wrap ((IntKind.u64.wrap (t132 + (IntKind.u64.wrap (x7_5 * 56)))) + 40)) 8 t142 _ ?side1 ?side2 A44.out).mono ?_); (case side1 => repeat (first | exact (Kd.C_below HR0.out (by repeat (first | (with_reducible first | exact HB.out | apply below_alloc | apply pw_below_drewN | apply below_drew1) | exact HB.out))) | (with_reducible refine Kd.C_alloc ?_ _) | (with_reducible refine Kd.C_drewN ?_ _) | (with_reducible refine Kd.C_drew ?_))); (case side2 => exact HC0.out); rintro e w' ⟨rfl, ⟨nd, rfl⟩⟩; refine ⟨_, rfl, ?_⟩) | ((with_reducible refine gate_callee (f := 17) rfl ?_); refine goesL_ (some 131) rfl rfl Try.func17 (by kernel_rfl) rfl #[.slice A0 l0.length c0, .int .u64 (IntKind.u64.wrap ((IntKind.u64.wrap (t132 + (IntKind.u64.wrap (x7_5 * 56)))) + 48)), .int .i64 8] rfl (by (try simp only [List.map_toArray, List.map_cons, List.map_nil]); first | done | rfl | (simp only [List.length_drop, List.length_take]; rfl)) ?_; (with_reducible refine (messuageref08_N.calls k5 _ _ l0 (IntKind.u64.wrap ((IntKind.u64.wrap (t132 + (IntKind.u64.wrap (x7_5 * 56)))) + 48)) 8 t143 _ ?side1 ?side2 A45.out).mono ?_); (case side1 => repeat (first | exact (Kd.C_below HR0.out (by repeat (first | (with_reducible first | exact HB.out | apply below_alloc | apply pw_below_drewN | apply below_drew1) | exact HB.out))) | (with_reducible refine Kd.C_alloc ?_ _) | (with_reducible refine Kd.C_drewN ?_ _) | (with_reducible refine Kd.C_drew ?_))); (case side2 => exact HC0.out); rintro e w' ⟨rfl, ⟨nd, rfl⟩⟩; refine ⟨_, rfl, ?_⟩) | ((with_reducible refine gate_builtin (b := .append) (xs := #[.tmp 102, .tmp 133]) rfl ?_); (try (refine gate_guard (by rfl) ?_; dsimp only)); at_builtin; refine Kd.R_append k32 (w0 := w) w.heap.size rfl (.tmp 102) (.tmp 133) 23 32 (.agg #[(.int .u32 0), (.int .u32 0), (.int .u64 0), (.int .u64 0), (.int .u64 0), (.int .u64 0), (.int .u64 0)]) 48 rfl Try.underlying23 info32 rfl (by decide) (by omega) u6 x6_5 (⟨(t137) % 4294967296, (t138) % 4294967296, t139, t140, t141, t142, t143⟩ : S32) [.int .u32 ((t137) % 4294967296), .int .u32 ((t138) % 4294967296), .int .u64 t139, .int .u64 t140, .int .u64 t141, .int .u64 t142, .int .u64 t143] (fun _ => True) (fun _ => False) rfl rfl ?aP (fun _ hk => hk.elim) ?aF ?aO ?aB ?aS ?aL ?_; (case aP => exact k32_mkM _ _ _ (⟨(t137) % 4294967296, (t138) % 4294967296, t139, t140, t141, t142, t143⟩ : S32)); (case aB => exact (by repeat (first | (with_reducible first | exact HB.out | apply below_alloc | apply pw_below_drewN | apply below_drew1) | exact HB.out))); (case aF => exact (fun _ _ => trivial)); (case aO => exact (by (with_reducible repeat (first | apply Kd.R_alloc | apply Kd.R_drewN | apply Kd.R_drew)); exact HO_6.out)); (case aS => exact (below_size (by repeat (first | (with_reducible first | exact HB.out | apply below_alloc | apply pw_below_drewN | apply below_drew1) | exact HB.out)))); (case aL => have := LMc46.out; omega); intro v145 w47 ho hb hg hat; rw [← Ny144.out] at ho; have n0_ := Aside0.mk (hb); have n1_ := Aside0.mk (ho); clear HB; clear HO_6; have HB := n0_; have HO146 := n1_; clear n0_ n1_; clear ho hb hg hat))
                  go_roundg k5
                  case measure => have := HJ1.out; have := HJ11.out; have := HJ20.out; have := HJ27.out; have := HK5.out; omega
                  case rel => exact ⟨(y144), (IntKind.u64.wrap (x7_5 + 1)), (by first | rfl | (simp; done) | (simp [*]; done)), H', ⟨by have := HJ1.out; have := HJ11.out; have := HJ20.out; have := HJ27.out; have := HK5.out; omega⟩, ⟨by (with_reducible repeat (first | apply Kd.R_alloc | apply Kd.R_drewN | apply Kd.R_drew)); exact HO146.out⟩, ⟨by repeat (first | (with_reducible first | exact HB.out | apply below_alloc | apply pw_below_drewN | apply below_drew1) | exact HB.out)⟩⟩
                 ·
                  rw [if_neg c46] at H
                  exact absurd H (by simp)
                ·
                 rw [if_neg c38] at H
                 have c38b0 : decide (x7_5 < t133) = false := decide_eq_false c38
                 clear c38
                 simp only [Option.some.injEq, Prod.mk.injEq] at H
                 obtain ⟨rfl, rfl⟩ := H
                 go_wp2
                 go_ret2
                 exact ⟨_, by first | rfl | (simp [errW_none, errW_some] <;> rfl) | (simp [*, errW_none, errW_some] <;> rfl), by (with_reducible repeat (first | apply Kd.R_alloc | apply Kd.R_drewN | apply Kd.R_drew)); exact HO_6.out, by repeat (first | (with_reducible first | exact HB.out | apply below_alloc | apply pw_below_drewN | apply below_drew1) | exact HB.out)⟩
       ·
        rw [if_neg c20] at H
        have c20b0 : (t129 == 3) = false := beq_eq_false_iff_ne.mpr c20
        have c20b1 : (t129 != 3) = true := bne_iff_ne.mpr c20
        simp only [Option.some.injEq, Prod.mk.injEq] at H
        obtain ⟨rfl, rfl⟩ := H
        go_wp2_with (first | ((with_reducible refine gate_callee (f := 17) rfl ?_); refine goesL_ (some 53) rfl rfl Try.func17 (by kernel_rfl) rfl #[.slice A0 l0.length c0, .int .u64 16, .int .i64 2] rfl (by (try simp only [List.map_toArray, List.map_cons, List.map_nil]); first | done | rfl | (simp only [List.length_drop, List.length_take]; rfl)) ?_; (with_reducible refine (messuageref08_N.calls kj11 _ _ l0 16 2 t129 _ ?side1 ?side2 A19.out).mono ?_); (case side1 => repeat (first | exact (Kd.C_below HR0.out HB.out) | (with_reducible refine Kd.C_alloc ?_ _) | (with_reducible refine Kd.C_drewN ?_ _) | (with_reducible refine Kd.C_drew ?_))); (case side2 => exact HC0.out); rintro e w' ⟨rfl, ⟨nd, rfl⟩⟩; refine ⟨_, rfl, ?_⟩))
        go_ret2
        exact ⟨_, by first | rfl | (simp [errW_none, errW_some] <;> rfl) | (simp [*, errW_none, errW_some] <;> rfl), by first | exact Kd.R_nil _ _ _ _ _ | exact Kd.N_nil _ _ _ _ _ | exact Kd.V_nil _ _ _ _ _ | exact Kd.Q_nil _ _ _ _ _ | exact Kd.S_nil _ _ _ _ _, by repeat (first | (with_reducible first | exact HB.out | apply below_alloc | apply pw_below_drewN | apply below_drew1) | exact HB.out)⟩

end Go.Proofs.Ytlegpojjbeglhaa.P
