/- For functions of this seat: a plain Lean function each, and the proof that the call answers so; written by a program of this session out of the translation. No condition beyond those that stand in each theorem. -/
import Derived.Test.YtlegpojjbeglhaaPx0
import Derived.Test.YtlegpojjbeglhaaPx2
import Derived.Test.YtlegpojjbeglhaaPx4
namespace Go.Proofs.Ytlegpojjbeglhaa.P
open Go.RowKit Go.Proofs.YtlegpojjbeglhaaW.PrintWords Go.Proofs.YtlegpojjbeglhaaW.PrintLast Go.Proofs.YtlegpojjbeglhaaW.PrintMore
attribute [local go_sem] max2_int min2_int max_two min_two max_three min_three max_four min_four   -- for this text's walks alone
set_option linter.unusedVariables false
set_option linter.unusedSimpArgs false

/-! ### head_load: function 44 -/
mutual
def head_load.j0 : Nat → List (S32) → Int → Int → Int → Int → Int → Int → Int → Int → Int → Option (Bool)
 | 0, _, _, _, _, _, _, _, _, _, _ => none
 | k + 1, x1, x2, x7, x154000, x154001, x154002, x154003, x154004, x154005, x154006 => if (Int.tmod x154003 256) = 0 then (head_load.j1 k x1 x2 x7 ((Int.tmod x154002 256) == 0) x154000 x154001 x154002 x154003 x154004 x154005 x154006) else (head_load.j1 k x1 x2 x7 false x154000 x154001 x154002 x154003 x154004 x154005 x154006)
def head_load.j1 : Nat → List (S32) → Int → Int → Bool → Int → Int → Int → Int → Int → Int → Int → Option (Bool)
 | 0, _, _, _, _, _, _, _, _, _, _, _ => none
 | k + 1, x1, x2, x7, x9, x154000, x154001, x154002, x154003, x154004, x154005, x154006 => if x9 = true then (if x154001 > 7 then (head_load.j2 k x1 x7 true x154000 x154001 x154002 x154003 x154004 x154005 x154006) else (if x154005 = 0 then (head_load.j2 k x1 x7 true x154000 x154001 x154002 x154003 x154004 x154005 x154006) else (if x154004 > x154005 then (head_load.j2 k x1 x7 true x154000 x154001 x154002 x154003 x154004 x154005 x154006) else (if x154005 > 16384 then (head_load.j2 k x1 x7 true x154000 x154001 x154002 x154003 x154004 x154005 x154006) else ((num_Inside.f x154002 x154004 0 x2).bind fun t156 => (head_load.j2 k x1 x7 (!t156) x154000 x154001 x154002 x154003 x154004 x154005 x154006)))))) else (head_load.j2 k x1 x7 true x154000 x154001 x154002 x154003 x154004 x154005 x154006)
def head_load.j2 : Nat → List (S32) → Int → Bool → Int → Int → Int → Int → Int → Int → Int → Option (Bool)
 | 0, _, _, _, _, _, _, _, _, _, _ => none
 | k + 1, x1, x7, x62, x154000, x154001, x154002, x154003, x154004, x154005, x154006 => if x62 = true then (some false) else (if (x1.length : Int) = 0 then (if x154003 = 0 then (if x154003 < x7 then (some false) else (if x154003 > 16384 then (some false) else ((head_End.f x154000 x154001 x154002 x154003 x154004 x154005 x154006).bind fun t157 => (some (decide (t157 ≤ 16384)))))) else (some false)) else (if x154003 < x7 then (some false) else (if x154003 > 16384 then (some false) else ((head_End.f x154000 x154001 x154002 x154003 x154004 x154005 x154006).bind fun t158 => (some (decide (t158 ≤ 16384)))))))
end
def head_load.f (k : Nat) (a0_0 : Int) (a0_1 : Int) (a0_2 : Int) (a0_3 : Int) (a0_4 : Int) (a0_5 : Int) (a0_6 : Int) (l1 : List (S32)) (a2 : Int) : Option (Bool) := if (l1.length : Int) > 0 then (if 0 ≤ (wrap64 ((l1.length : Int) - 1)) then (if (wrap64 ((l1.length : Int) - 1)) < (l1.length : Int) then ((head_End.f ((rd_T32 l1 (wrap64 ((l1.length : Int) - 1))).f0) ((rd_T32 l1 (wrap64 ((l1.length : Int) - 1))).f1) ((rd_T32 l1 (wrap64 ((l1.length : Int) - 1))).f2) ((rd_T32 l1 (wrap64 ((l1.length : Int) - 1))).f3) ((rd_T32 l1 (wrap64 ((l1.length : Int) - 1))).f4) ((rd_T32 l1 (wrap64 ((l1.length : Int) - 1))).f5) ((rd_T32 l1 (wrap64 ((l1.length : Int) - 1))).f6)).bind fun t155 => (head_load.j0 k l1 a2 t155 a0_0 a0_1 a0_2 a0_3 a0_4 a0_5 a0_6)) else (none)) else (none)) else (head_load.j0 k l1 a2 0 a0_0 a0_1 a0_2 a0_3 a0_4 a0_5 a0_6)
theorem head_load.mono_l : ∀ k, (∀ y0 y1 y2 y3 y4 y5 y6 y7 y8 y9, LeO (head_load.j0 k y0 y1 y2 y3 y4 y5 y6 y7 y8 y9) (head_load.j0 (k + 1) y0 y1 y2 y3 y4 y5 y6 y7 y8 y9)) ∧ (∀ y0 y1 y2 y3 y4 y5 y6 y7 y8 y9 y10, LeO (head_load.j1 k y0 y1 y2 y3 y4 y5 y6 y7 y8 y9 y10) (head_load.j1 (k + 1) y0 y1 y2 y3 y4 y5 y6 y7 y8 y9 y10)) ∧ (∀ y0 y1 y2 y3 y4 y5 y6 y7 y8 y9, LeO (head_load.j2 k y0 y1 y2 y3 y4 y5 y6 y7 y8 y9) (head_load.j2 (k + 1) y0 y1 y2 y3 y4 y5 y6 y7 y8 y9))
 | 0 => ⟨fun _ _ _ _ _ _ _ _ _ _ r h => by simp [head_load.j0] at h, fun _ _ _ _ _ _ _ _ _ _ _ r h => by simp [head_load.j1] at h, fun _ _ _ _ _ _ _ _ _ _ r h => by simp [head_load.j2] at h⟩
 | k + 1 => by
  obtain ⟨ih0, ih1, ih2⟩ := head_load.mono_l k
  refine ⟨?_, ?_, ?_⟩
  ·
   intro y0 y1 y2 y3 y4 y5 y6 y7 y8 y9
   unfold head_load.j0
   repeat' first
   | (with_reducible exact ih0 _ _ _ _ _ _ _ _ _ _)
   | (with_reducible exact ih1 _ _ _ _ _ _ _ _ _ _ _)
   | (with_reducible exact ih2 _ _ _ _ _ _ _ _ _ _)
   | (with_reducible exact LeO.refl _)
   | (with_reducible exact LeO.none _)
   | (with_reducible refine LeO.ite ?_ ?_)
   | (with_reducible refine LeO.bind ?_ (fun _ => ?_))
   | exact ih0 _ _ _ _ _ _ _ _ _ _
   | exact ih1 _ _ _ _ _ _ _ _ _ _ _
   | exact ih2 _ _ _ _ _ _ _ _ _ _
   | exact LeO.none _
   | refine LeO.ite ?_ ?_
   | refine LeO.bind ?_ (fun _ => ?_)
  ·
   intro y0 y1 y2 y3 y4 y5 y6 y7 y8 y9 y10
   unfold head_load.j1
   repeat' first
   | (with_reducible exact ih0 _ _ _ _ _ _ _ _ _ _)
   | (with_reducible exact ih1 _ _ _ _ _ _ _ _ _ _ _)
   | (with_reducible exact ih2 _ _ _ _ _ _ _ _ _ _)
   | (with_reducible exact LeO.refl _)
   | (with_reducible exact LeO.none _)
   | (with_reducible refine LeO.ite ?_ ?_)
   | (with_reducible refine LeO.bind ?_ (fun _ => ?_))
   | exact ih0 _ _ _ _ _ _ _ _ _ _
   | exact ih1 _ _ _ _ _ _ _ _ _ _ _
   | exact ih2 _ _ _ _ _ _ _ _ _ _
   | exact LeO.none _
   | refine LeO.ite ?_ ?_
   | refine LeO.bind ?_ (fun _ => ?_)
  ·
   intro y0 y1 y2 y3 y4 y5 y6 y7 y8 y9
   unfold head_load.j2
   repeat' first
   | (with_reducible exact ih0 _ _ _ _ _ _ _ _ _ _)
   | (with_reducible exact ih1 _ _ _ _ _ _ _ _ _ _ _)
   | (with_reducible exact ih2 _ _ _ _ _ _ _ _ _ _)
   | (with_reducible exact LeO.refl _)
   | (with_reducible exact LeO.none _)
   | (with_reducible refine LeO.ite ?_ ?_)
   | (with_reducible refine LeO.bind ?_ (fun _ => ?_))
   | exact ih0 _ _ _ _ _ _ _ _ _ _
   | exact ih1 _ _ _ _ _ _ _ _ _ _ _
   | exact ih2 _ _ _ _ _ _ _ _ _ _
   | exact LeO.none _
   | refine LeO.ite ?_ ?_
   | refine LeO.bind ?_ (fun _ => ?_)
theorem head_load.mono : ∀ a0 a1 a2 a3 a4 a5 a6 a7 a8 k, LeO (head_load.f k a0 a1 a2 a3 a4 a5 a6 a7 a8) (head_load.f (k + 1) a0 a1 a2 a3 a4 a5 a6 a7 a8) := by
 intro a0 a1 a2 a3 a4 a5 a6 a7 a8 k
 obtain ⟨ih0, ih1, ih2⟩ := head_load.mono_l k
 unfold head_load.f
 repeat' first
   | (with_reducible exact ih0 _ _ _ _ _ _ _ _ _ _)
   | (with_reducible exact ih1 _ _ _ _ _ _ _ _ _ _ _)
   | (with_reducible exact ih2 _ _ _ _ _ _ _ _ _ _)
   | (with_reducible exact LeO.refl _)
   | (with_reducible exact LeO.none _)
   | (with_reducible refine LeO.ite ?_ ?_)
   | (with_reducible refine LeO.bind ?_ (fun _ => ?_))
   | exact ih0 _ _ _ _ _ _ _ _ _ _
   | exact ih1 _ _ _ _ _ _ _ _ _ _ _
   | exact ih2 _ _ _ _ _ _ _ _ _ _
   | exact LeO.none _
   | refine LeO.ite ?_ ?_
   | refine LeO.bind ?_ (fun _ => ?_)
set_option maxHeartbeats 8000000 in
set_option maxRecDepth 100000 in
theorem head_load.calls (k : Nat) (a0_0 : Int) (a0_1 : Int) (a0_2 : Int) (a0_3 : Int) (a0_4 : Int) (a0_5 : Int) (a0_6 : Int) (A1 : Option Addr) (c1 : Nat) (l1 : List (S32)) (a2 : Int) (r : Bool) (w : World) (hr1 : Kd.C k32 w A1 l1.length l1) (hc1 : l1.length ≤ c1) (h : head_load.f k a0_0 a0_1 a0_2 a0_3 a0_4 a0_5 a0_6 l1 a2 = some r) :
  Calls Try.prog 44 #[.agg #[.int .u32 a0_0, .int .u32 a0_1, .int .u64 a0_2, .int .u64 a0_3, .int .u64 a0_4, .int .u64 a0_5, .int .u64 a0_6], .slice A1 l1.length c1, .int .u64 a2] w fun e w' => e = .returned (.bool r) ∧ Below w.heap.size w w' := by
 have hu32 := Try.underlying32
 have HR1 := Aside0.mk hr1
 have HC1 := Aside0.mk hc1
 clear hr1 hc1
 have HB := Aside0.mk (Below.refl w.heap.size w)
 have H : (if (l1.length : Int) > 0 then (if 0 ≤ (wrap64 ((l1.length : Int) - 1)) then (if (wrap64 ((l1.length : Int) - 1)) < (l1.length : Int) then ((head_End.f ((rd_T32 l1 (wrap64 ((l1.length : Int) - 1))).f0) ((rd_T32 l1 (wrap64 ((l1.length : Int) - 1))).f1) ((rd_T32 l1 (wrap64 ((l1.length : Int) - 1))).f2) ((rd_T32 l1 (wrap64 ((l1.length : Int) - 1))).f3) ((rd_T32 l1 (wrap64 ((l1.length : Int) - 1))).f4) ((rd_T32 l1 (wrap64 ((l1.length : Int) - 1))).f5) ((rd_T32 l1 (wrap64 ((l1.length : Int) - 1))).f6)).bind fun t155 => (head_load.j0 k l1 a2 t155 a0_0 a0_1 a0_2 a0_3 a0_4 a0_5 a0_6)) else (none)) else (none)) else (head_load.j0 k l1 a2 0 a0_0 a0_1 a0_2 a0_3 a0_4 a0_5 a0_6)) = some r := h
 clear h
 have HC4 := Aside0.mk H
 clear H
 go_enter Try.func44, Try.ntmps44
 go_upto_if 13 with (first | ((with_reducible refine gate_dst (N := 3) rfl ?_); refine box_event ?hg (N := 3) ?hd (cs := #[.int .u32 a0_0, .int .u32 a0_1, .int .u64 a0_2, .int .u64 a0_3, .int .u64 a0_4, .int .u64 a0_5, .int .u64 a0_6]) (t := 32) ?hr ?_; (case hd => rfl); (case hg => rfl); (case hr => first | (go_simp; done) | (go_simp; rfl)); intro gb153 hg w5 hbox hb; have n0_ := Aside0.mk (below_step (by repeat (first | (with_reducible first | exact HB.out | apply below_alloc | apply pw_below_drewN | apply below_drew1) | exact HB.out)) hb); have n1_ := Aside0.mk (hbox); have n2_ := Aside0.mk ((by rw [hg]; exact (below_size (by repeat (first | (with_reducible first | exact HB.out | apply below_alloc | apply pw_below_drewN | apply below_drew1) | exact HB.out))) : w.heap.size ≤ gb153)); have n3_ := Aside0.mk ((by rw [hg]; exact (below_size (by repeat (first | (with_reducible first | exact HB.out | apply below_alloc | apply pw_below_drewN | apply below_drew1) | exact HB.out))) : w.heap.size ≤ gb153)); clear HB; have HB := n0_; have BK153 := n1_; have GW153 := n2_; have GE153 := n3_; clear n0_ n1_ n2_ n3_; clear hb hbox hg))
 (try simp only [Act.put, List.setIfInBounds_toArray, List.set_cons_zero, List.set_cons_succ])
 go_cut [7] (fun v7 wc => ∃ (kq : Nat) (x7_3 : Int), v7 = .int .u64 x7_3 ∧ Aside0 (head_load.j0 kq l1 a2 x7_3 a0_0 a0_1 a0_2 a0_3 a0_4 a0_5 a0_6 = some r) ∧ Aside0 (kq ≤ k) ∧ Aside0 (wc.heap[gb153]? = some (.cells #[.int .u32 a0_0, .int .u32 a0_1, .int .u64 a0_2, .int .u64 a0_3, .int .u64 a0_4, .int .u64 a0_5, .int .u64 a0_6] 32 (0, 0))) ∧ Aside0 (Below w.heap.size w wc))
 case first =>
  have H := HC4.out
  clear HC4
  by_cases c6 : (l1.length : Int) > 0
  ·
   rw [if_pos c6] at H
   have c6b0 : decide (0 < (l1.length : Int)) = true := decide_eq_true c6
   have c6b1 : decide (0 < l1.length) = true := decide_eq_true (by omega)
   clear c6
   (first | rw [c6b0] | (simp only [i64_w, i32_w]; rw [c6b0]) | skip)
   (try rw [c6b1])
   obtain ⟨ji7, hji7⟩ : ∃ j_ : Int, (wrap64 ((l1.length : Int) - 1)) = j_ := ⟨_, rfl⟩
   replace H : (if 0 ≤ (ji7) then (if (ji7) < (l1.length : Int) then ((head_End.f ((rd_T32 l1 (ji7)).f0) ((rd_T32 l1 (ji7)).f1) ((rd_T32 l1 (ji7)).f2) ((rd_T32 l1 (ji7)).f3) ((rd_T32 l1 (ji7)).f4) ((rd_T32 l1 (ji7)).f5) ((rd_T32 l1 (ji7)).f6)).bind fun t155 => (head_load.j0 k l1 a2 t155 a0_0 a0_1 a0_2 a0_3 a0_4 a0_5 a0_6)) else (none)) else (none)) = some r := by first | (rw [hji7] at H; exact H) | (simp only [hji7] at H ⊢; exact H)
   have hji7w : (IntKind.i64.wrap ((l1.length : Int) - 1)) = ji7 := (i64_w _).trans hji7
   by_cases c8 : 0 ≤ (ji7)
   ·
    rw [if_pos c8] at H
    have c8b0 : decide (0 ≤ (ji7)) = true := decide_eq_true c8
    clear c8
    by_cases c9 : (ji7) < (l1.length : Int)
    ·
     rw [if_pos c9] at H
     have c9b0 : decide ((ji7) < (l1.length : Int)) = true := decide_eq_true c9
     clear c9
     replace H := Option.bind_eq_some_iff.mp H
     obtain ⟨t155, A100, H⟩ := H
     replace H : (head_load.j0 k l1 a2 t155 a0_0 a0_1 a0_2 a0_3 a0_4 a0_5 a0_6) = some r := H
     have A10 := Aside0.mk A100
     clear A100
     have H' := Aside0.mk H
     clear H
     have p154 : 0 ≤ ((ji7) : Int) := of_decide_eq_true (by first | (with_reducible assumption) | assumption)
     have q154 : (ji7) < (l1.length : Int) := of_decide_eq_true (by first | (with_reducible assumption) | assumption)
     obtain ⟨ad154, e154, hx154_0, hx154_1, hx154_2, hx154_3, hx154_4, hx154_5, hx154_6⟩ := at_T32 HR1.out (ji7) p154 q154
     cases e154
     replace hx154_0 := (HB.out.cell (World.block_lt_of_cell? w _ hx154_0)).trans hx154_0
     replace hx154_1 := (HB.out.cell (World.block_lt_of_cell? w _ hx154_1)).trans hx154_1
     replace hx154_2 := (HB.out.cell (World.block_lt_of_cell? w _ hx154_2)).trans hx154_2
     replace hx154_3 := (HB.out.cell (World.block_lt_of_cell? w _ hx154_3)).trans hx154_3
     replace hx154_4 := (HB.out.cell (World.block_lt_of_cell? w _ hx154_4)).trans hx154_4
     replace hx154_5 := (HB.out.cell (World.block_lt_of_cell? w _ hx154_5)).trans hx154_5
     replace hx154_6 := (HB.out.cell (World.block_lt_of_cell? w _ hx154_6)).trans hx154_6
     replace p154 := eq_true p154
     replace q154 := eq_true q154
     go_wp2_with (first | ((with_reducible refine gate_callee (f := 15) rfl ?_); refine goesL_ (some 19) rfl rfl Try.func15 (by kernel_rfl) rfl #[.agg #[.int .u32 ((rd_T32 l1 (ji7)).f0), .int .u32 ((rd_T32 l1 (ji7)).f1), .int .u64 ((rd_T32 l1 (ji7)).f2), .int .u64 ((rd_T32 l1 (ji7)).f3), .int .u64 ((rd_T32 l1 (ji7)).f4), .int .u64 ((rd_T32 l1 (ji7)).f5), .int .u64 ((rd_T32 l1 (ji7)).f6)]] rfl (by (try simp only [List.map_toArray, List.map_cons, List.map_nil]); first | done | (simp only [hji7]; rfl) | rfl | (simp only [List.length_drop, List.length_take]; rfl)) ?_; (with_reducible refine (head_End.calls ((rd_T32 l1 (ji7)).f0) ((rd_T32 l1 (ji7)).f1) ((rd_T32 l1 (ji7)).f2) ((rd_T32 l1 (ji7)).f3) ((rd_T32 l1 (ji7)).f4) ((rd_T32 l1 (ji7)).f5) ((rd_T32 l1 (ji7)).f6) t155 _ A10.out).mono ?_); rintro e w11 ⟨rfl, hb⟩; refine ⟨_, rfl, ?_⟩; have n0_ := Aside0.mk (blk_below (g := gb153) (o := .cells #[.int .u32 a0_0, .int .u32 a0_1, .int .u64 a0_2, .int .u64 a0_3, .int .u64 a0_4, .int .u64 a0_5, .int .u64 a0_6] 32 (0, 0)) (by (with_reducible repeat (first | refine blk_drewN ?_ _ | refine blk_drew ?_ | refine blk_alloc ?_ _)); exact BK153.out) hb); have n1_ := Aside0.mk (below_step (by repeat (first | (with_reducible first | exact HB.out | apply below_alloc | apply pw_below_drewN | apply below_drew1 | refine below_set ?_ GE153.out) | exact HB.out)) hb); clear BK153; clear HB; have BK153 := n0_; have HB := n1_; clear n0_ n1_; (try clear hb); (try clear hb2); (try clear hk); (try clear hi)))
     go_meet
     case rel => exact ⟨_, (t155), (by first | rfl | (simp; done) | (simp [*]; done)), H', ⟨by first | omega | exact Nat.le_refl _⟩, ⟨by (with_reducible repeat (first | refine blk_drewN ?_ _ | refine blk_drew ?_ | refine blk_alloc ?_ _)); exact BK153.out⟩, ⟨by repeat (first | (with_reducible first | exact HB.out | apply below_alloc | apply pw_below_drewN | apply below_drew1 | refine below_set ?_ GE153.out) | exact HB.out)⟩⟩
    ·
     rw [if_neg c9] at H
     exact absurd H (by simp)
   ·
    rw [if_neg c8] at H
    exact absurd H (by simp)
  ·
   rw [if_neg c6] at H
   have c6b0 : decide (0 < (l1.length : Int)) = false := decide_eq_false c6
   have c6b1 : decide (0 < l1.length) = false := decide_eq_false (by omega)
   clear c6
   (first | rw [c6b0] | (simp only [i64_w, i32_w]; rw [c6b0]) | skip)
   (try rw [c6b1])
   have H' := Aside0.mk H
   clear H
   go_wp2
   go_meet
   case rel => exact ⟨_, (0), (by first | rfl | (simp; done) | (simp [*]; done)), H', ⟨by first | omega | exact Nat.le_refl _⟩, ⟨by (with_reducible repeat (first | refine blk_drewN ?_ _ | refine blk_drew ?_ | refine blk_alloc ?_ _)); exact BK153.out⟩, ⟨by repeat (first | (with_reducible first | exact HB.out | apply below_alloc | apply pw_below_drewN | apply below_drew1 | refine below_set ?_ GE153.out) | exact HB.out)⟩⟩
 case rest =>
  clear HC4
  try clear c1
  try clear p1
  try clear q1
  try clear hx1
  try clear p2
  try clear c4
  try clear c6
  try clear c6b0
  try clear c6b1
  try clear p6
  try clear c8
  try clear c8b0
  try clear c9
  try clear c9b0
  try clear hx154_0
  try clear hx154_1
  try clear hx154_2
  try clear hx154_3
  try clear hx154_4
  try clear hx154_5
  try clear hx154_6
  try clear p154
  try clear q154
  obtain ⟨kq, x7_3, rfl, HA, HJ3, BK153, HB⟩ := hcut
  cases kq with
  | zero => exact absurd HA.out (by simp [head_load.j0])
  | succ kj3 =>
   have H := HA.out
   clear HA
   simp only [head_load.j0] at H
   have HC12 := Aside0.mk H
   clear H
   go_upto_region 5 with (fail)
   go_cut [9] (fun v9 wc => ∃ (kq : Nat) (x9_11 : Bool), v9 = .bool x9_11 ∧ Aside0 (head_load.j1 kq l1 a2 x7_3 x9_11 a0_0 a0_1 a0_2 a0_3 a0_4 a0_5 a0_6 = some r) ∧ Aside0 (kq ≤ kj3) ∧ Aside0 (wc.heap[gb153]? = some (.cells #[.int .u32 a0_0, .int .u32 a0_1, .int .u64 a0_2, .int .u64 a0_3, .int .u64 a0_4, .int .u64 a0_5, .int .u64 a0_6] 32 (0, 0))) ∧ Aside0 (Below w.heap.size w wc))
   case first =>
    have H := HC12.out
    clear HC12
    by_cases c13 : (Int.tmod a0_3 256) = 0
    ·
     rw [if_pos c13] at H
     have c13b0 : ((Int.tmod a0_3 256) == 0) = true := beq_iff_eq.mpr c13
     have c13b1 : ((Int.tmod a0_3 256) != 0) = false := bne_eq_false_iff_eq.mpr c13
     clear c13
     (first | rw [c13b0] | (simp only [i64_w, i32_w]; rw [c13b0]) | skip)
     have H' := Aside0.mk H
     clear H
     have hcz14_0 : wc.cell? ⟨gb153, 0, none⟩ = some (.int .u32 a0_0) := (blk_cell BK153.out 0).trans rfl
     have hcz14_1 : wc.cell? ⟨gb153, 1, none⟩ = some (.int .u32 a0_1) := (blk_cell BK153.out 1).trans rfl
     have hcz14_2 : wc.cell? ⟨gb153, 2, none⟩ = some (.int .u64 a0_2) := (blk_cell BK153.out 2).trans rfl
     have hcz14_3 : wc.cell? ⟨gb153, 3, none⟩ = some (.int .u64 a0_3) := (blk_cell BK153.out 3).trans rfl
     have hcz14_4 : wc.cell? ⟨gb153, 4, none⟩ = some (.int .u64 a0_4) := (blk_cell BK153.out 4).trans rfl
     have hcz14_5 : wc.cell? ⟨gb153, 5, none⟩ = some (.int .u64 a0_5) := (blk_cell BK153.out 5).trans rfl
     have hcz14_6 : wc.cell? ⟨gb153, 6, none⟩ = some (.int .u64 a0_6) := (blk_cell BK153.out 6).trans rfl
     have hfz14_0 := blk_frozen BK153.out 0
     have hfz14_1 := blk_frozen BK153.out 1
     have hfz14_2 := blk_frozen BK153.out 2
     have hfz14_3 := blk_frozen BK153.out 3
     have hfz14_4 := blk_frozen BK153.out 4
     have hfz14_5 := blk_frozen BK153.out 5
     have hfz14_6 := blk_frozen BK153.out 6
     go_wp2
     go_meet
     case rel => exact ⟨_, (((Int.tmod a0_2 256) == 0)), (by first | rfl | (simp; done) | (simp [*]; done)), H', ⟨by have := HJ3.out; first | omega | exact Nat.le_refl _⟩, ⟨by (with_reducible repeat (first | refine blk_drewN ?_ _ | refine blk_drew ?_ | refine blk_alloc ?_ _)); exact BK153.out⟩, ⟨by repeat (first | (with_reducible first | exact HB.out | apply below_alloc | apply pw_below_drewN | apply below_drew1 | refine below_set ?_ GE153.out) | exact HB.out)⟩⟩
    ·
     rw [if_neg c13] at H
     have c13b0 : ((Int.tmod a0_3 256) == 0) = false := beq_eq_false_iff_ne.mpr c13
     have c13b1 : ((Int.tmod a0_3 256) != 0) = true := bne_iff_ne.mpr c13
     (first | rw [c13b0] | (simp only [i64_w, i32_w]; rw [c13b0]) | skip)
     have H' := Aside0.mk H
     clear H
     have hcz15_0 : wc.cell? ⟨gb153, 0, none⟩ = some (.int .u32 a0_0) := (blk_cell BK153.out 0).trans rfl
     have hcz15_1 : wc.cell? ⟨gb153, 1, none⟩ = some (.int .u32 a0_1) := (blk_cell BK153.out 1).trans rfl
     have hcz15_2 : wc.cell? ⟨gb153, 2, none⟩ = some (.int .u64 a0_2) := (blk_cell BK153.out 2).trans rfl
     have hcz15_3 : wc.cell? ⟨gb153, 3, none⟩ = some (.int .u64 a0_3) := (blk_cell BK153.out 3).trans rfl
     have hcz15_4 : wc.cell? ⟨gb153, 4, none⟩ = some (.int .u64 a0_4) := (blk_cell BK153.out 4).trans rfl
     have hcz15_5 : wc.cell? ⟨gb153, 5, none⟩ = some (.int .u64 a0_5) := (blk_cell BK153.out 5).trans rfl
     have hcz15_6 : wc.cell? ⟨gb153, 6, none⟩ = some (.int .u64 a0_6) := (blk_cell BK153.out 6).trans rfl
     have hfz15_0 := blk_frozen BK153.out 0
     have hfz15_1 := blk_frozen BK153.out 1
     have hfz15_2 := blk_frozen BK153.out 2
     have hfz15_3 := blk_frozen BK153.out 3
     have hfz15_4 := blk_frozen BK153.out 4
     have hfz15_5 := blk_frozen BK153.out 5
     have hfz15_6 := blk_frozen BK153.out 6
     go_wp2
     go_meet
     case rel => exact ⟨_, (false), (by first | rfl | (simp; done) | (simp [*]; done)), H', ⟨by have := HJ3.out; first | omega | exact Nat.le_refl _⟩, ⟨by (with_reducible repeat (first | refine blk_drewN ?_ _ | refine blk_drew ?_ | refine blk_alloc ?_ _)); exact BK153.out⟩, ⟨by repeat (first | (with_reducible first | exact HB.out | apply below_alloc | apply pw_below_drewN | apply below_drew1 | refine below_set ?_ GE153.out) | exact HB.out)⟩⟩
   case rest =>
    clear HC12
    try clear c1
    try clear p1
    try clear q1
    try clear hx1
    try clear p2
    try clear c4
    try clear c6
    try clear c6b0
    try clear c6b1
    try clear p6
    try clear c8
    try clear c8b0
    try clear c9
    try clear c9b0
    try clear c13
    try clear c13b0
    try clear c13b1
    try clear c15
    try clear p15
    try clear q15
    try clear hx15
    try clear hcz14_0
    try clear hcz14_1
    try clear hcz14_2
    try clear hcz14_3
    try clear hcz14_4
    try clear hcz14_5
    try clear hcz14_6
    try clear hcz15_0
    try clear hcz15_1
    try clear hcz15_2
    try clear hcz15_3
    try clear hcz15_4
    try clear hcz15_5
    try clear hcz15_6
    try clear hfz14_0
    try clear hfz14_1
    try clear hfz14_2
    try clear hfz14_3
    try clear hfz14_4
    try clear hfz14_5
    try clear hfz14_6
    try clear hfz15_0
    try clear hfz15_1
    try clear hfz15_2
    try clear hfz15_3
    try clear hfz15_4
    try clear hfz15_5
    try clear hfz15_6
    try clear hx154_0
    try clear hx154_1
    try clear hx154_2
    try clear hx154_3
    try clear hx154_4
    try clear hx154_5
    try clear hx154_6
    try clear p1
    try clear p154
    try clear p2
    try clear p6
    try clear q1
    try clear q154
    obtain ⟨kq, x9_11, rfl, HA, HJ11, BK153, HB⟩ := hcut
    cases kq with
    | zero => exact absurd HA.out (by simp [head_load.j1])
    | succ kj11 =>
     have H := HA.out
     clear HA
     simp only [head_load.j1] at H
     have HC16 := Aside0.mk H
     clear H
     go_upto_region 6 with (fail)
     go_cut [62] (fun v62 wc => ∃ (kq : Nat) (x62_15 : Bool), v62 = .bool x62_15 ∧ Aside0 (head_load.j2 kq l1 x7_3 x62_15 a0_0 a0_1 a0_2 a0_3 a0_4 a0_5 a0_6 = some r) ∧ Aside0 (kq ≤ kj11) ∧ Aside0 (wc.heap[gb153]? = some (.cells #[.int .u32 a0_0, .int .u32 a0_1, .int .u64 a0_2, .int .u64 a0_3, .int .u64 a0_4, .int .u64 a0_5, .int .u64 a0_6] 32 (0, 0))) ∧ Aside0 (Below w.heap.size w wc))
     case first =>
      have H := HC16.out
      clear HC16
      by_cases c17 : x9_11 = true
      ·
       subst c17
       have H1 : (if a0_1 > 7 then (head_load.j2 kj11 l1 x7_3 true a0_0 a0_1 a0_2 a0_3 a0_4 a0_5 a0_6) else (if a0_5 = 0 then (head_load.j2 kj11 l1 x7_3 true a0_0 a0_1 a0_2 a0_3 a0_4 a0_5 a0_6) else (if a0_4 > a0_5 then (head_load.j2 kj11 l1 x7_3 true a0_0 a0_1 a0_2 a0_3 a0_4 a0_5 a0_6) else (if a0_5 > 16384 then (head_load.j2 kj11 l1 x7_3 true a0_0 a0_1 a0_2 a0_3 a0_4 a0_5 a0_6) else ((num_Inside.f a0_2 a0_4 0 a2).bind fun t156 => (head_load.j2 kj11 l1 x7_3 (!t156) a0_0 a0_1 a0_2 a0_3 a0_4 a0_5 a0_6)))))) = some r := by rw [if_pos rfl] at H; exact H
       clear H
       have H := H1
       clear H1
       by_cases c18 : a0_1 > 7
       ·
        rw [if_pos c18] at H
        have c18b0 : decide (7 < a0_1) = true := decide_eq_true c18
        clear c18
        (first | rw [c18b0] | (simp only [i64_w, i32_w]; rw [c18b0]) | skip)
        have H' := Aside0.mk H
        clear H
        have hcz19_0 : wc.cell? ⟨gb153, 0, none⟩ = some (.int .u32 a0_0) := (blk_cell BK153.out 0).trans rfl
        have hcz19_1 : wc.cell? ⟨gb153, 1, none⟩ = some (.int .u32 a0_1) := (blk_cell BK153.out 1).trans rfl
        have hcz19_2 : wc.cell? ⟨gb153, 2, none⟩ = some (.int .u64 a0_2) := (blk_cell BK153.out 2).trans rfl
        have hcz19_3 : wc.cell? ⟨gb153, 3, none⟩ = some (.int .u64 a0_3) := (blk_cell BK153.out 3).trans rfl
        have hcz19_4 : wc.cell? ⟨gb153, 4, none⟩ = some (.int .u64 a0_4) := (blk_cell BK153.out 4).trans rfl
        have hcz19_5 : wc.cell? ⟨gb153, 5, none⟩ = some (.int .u64 a0_5) := (blk_cell BK153.out 5).trans rfl
        have hcz19_6 : wc.cell? ⟨gb153, 6, none⟩ = some (.int .u64 a0_6) := (blk_cell BK153.out 6).trans rfl
        have hfz19_0 := blk_frozen BK153.out 0
        have hfz19_1 := blk_frozen BK153.out 1
        have hfz19_2 := blk_frozen BK153.out 2
        have hfz19_3 := blk_frozen BK153.out 3
        have hfz19_4 := blk_frozen BK153.out 4
        have hfz19_5 := blk_frozen BK153.out 5
        have hfz19_6 := blk_frozen BK153.out 6
        go_wp2
        go_meet
        case rel => exact ⟨_, (true), (by first | rfl | (simp; done) | (simp [*]; done)), H', ⟨by have := HJ3.out; have := HJ11.out; first | omega | exact Nat.le_refl _⟩, ⟨by (with_reducible repeat (first | refine blk_drewN ?_ _ | refine blk_drew ?_ | refine blk_alloc ?_ _)); exact BK153.out⟩, ⟨by repeat (first | (with_reducible first | exact HB.out | apply below_alloc | apply pw_below_drewN | apply below_drew1 | refine below_set ?_ GE153.out) | exact HB.out)⟩⟩
       ·
        rw [if_neg c18] at H
        have c18b0 : decide (7 < a0_1) = false := decide_eq_false c18
        clear c18
        (first | rw [c18b0] | (simp only [i64_w, i32_w]; rw [c18b0]) | skip)
        by_cases c20 : a0_5 = 0
        ·
         rw [if_pos c20] at H
         have c20b0 : (a0_5 == 0) = true := beq_iff_eq.mpr c20
         have c20b1 : (a0_5 != 0) = false := bne_eq_false_iff_eq.mpr c20
         clear c20
         have H' := Aside0.mk H
         clear H
         have hcz21_0 : wc.cell? ⟨gb153, 0, none⟩ = some (.int .u32 a0_0) := (blk_cell BK153.out 0).trans rfl
         have hcz21_1 : wc.cell? ⟨gb153, 1, none⟩ = some (.int .u32 a0_1) := (blk_cell BK153.out 1).trans rfl
         have hcz21_2 : wc.cell? ⟨gb153, 2, none⟩ = some (.int .u64 a0_2) := (blk_cell BK153.out 2).trans rfl
         have hcz21_3 : wc.cell? ⟨gb153, 3, none⟩ = some (.int .u64 a0_3) := (blk_cell BK153.out 3).trans rfl
         have hcz21_4 : wc.cell? ⟨gb153, 4, none⟩ = some (.int .u64 a0_4) := (blk_cell BK153.out 4).trans rfl
         have hcz21_5 : wc.cell? ⟨gb153, 5, none⟩ = some (.int .u64 a0_5) := (blk_cell BK153.out 5).trans rfl
         have hcz21_6 : wc.cell? ⟨gb153, 6, none⟩ = some (.int .u64 a0_6) := (blk_cell BK153.out 6).trans rfl
         have hfz21_0 := blk_frozen BK153.out 0
         have hfz21_1 := blk_frozen BK153.out 1
         have hfz21_2 := blk_frozen BK153.out 2
         have hfz21_3 := blk_frozen BK153.out 3
         have hfz21_4 := blk_frozen BK153.out 4
         have hfz21_5 := blk_frozen BK153.out 5
         have hfz21_6 := blk_frozen BK153.out 6
         go_wp2
         go_meet
         case rel => exact ⟨_, (true), (by first | rfl | (simp; done) | (simp [*]; done)), H', ⟨by have := HJ3.out; have := HJ11.out; first | omega | exact Nat.le_refl _⟩, ⟨by (with_reducible repeat (first | refine blk_drewN ?_ _ | refine blk_drew ?_ | refine blk_alloc ?_ _)); exact BK153.out⟩, ⟨by repeat (first | (with_reducible first | exact HB.out | apply below_alloc | apply pw_below_drewN | apply below_drew1 | refine below_set ?_ GE153.out) | exact HB.out)⟩⟩
        ·
         rw [if_neg c20] at H
         have c20b0 : (a0_5 == 0) = false := beq_eq_false_iff_ne.mpr c20
         have c20b1 : (a0_5 != 0) = true := bne_iff_ne.mpr c20
         by_cases c22 : a0_4 > a0_5
         ·
          rw [if_pos c22] at H
          have c22b0 : decide (a0_5 < a0_4) = true := decide_eq_true c22
          clear c22
          have H' := Aside0.mk H
          clear H
          have hcz23_0 : wc.cell? ⟨gb153, 0, none⟩ = some (.int .u32 a0_0) := (blk_cell BK153.out 0).trans rfl
          have hcz23_1 : wc.cell? ⟨gb153, 1, none⟩ = some (.int .u32 a0_1) := (blk_cell BK153.out 1).trans rfl
          have hcz23_2 : wc.cell? ⟨gb153, 2, none⟩ = some (.int .u64 a0_2) := (blk_cell BK153.out 2).trans rfl
          have hcz23_3 : wc.cell? ⟨gb153, 3, none⟩ = some (.int .u64 a0_3) := (blk_cell BK153.out 3).trans rfl
          have hcz23_4 : wc.cell? ⟨gb153, 4, none⟩ = some (.int .u64 a0_4) := (blk_cell BK153.out 4).trans rfl
          have hcz23_5 : wc.cell? ⟨gb153, 5, none⟩ = some (.int .u64 a0_5) := (blk_cell BK153.out 5).trans rfl
          have hcz23_6 : wc.cell? ⟨gb153, 6, none⟩ = some (.int .u64 a0_6) := (blk_cell BK153.out 6).trans rfl
          have hfz23_0 := blk_frozen BK153.out 0
          have hfz23_1 := blk_frozen BK153.out 1
          have hfz23_2 := blk_frozen BK153.out 2
          have hfz23_3 := blk_frozen BK153.out 3
          have hfz23_4 := blk_frozen BK153.out 4
          have hfz23_5 := blk_frozen BK153.out 5
          have hfz23_6 := blk_frozen BK153.out 6
          go_wp2
          go_meet
          case rel => exact ⟨_, (true), (by first | rfl | (simp; done) | (simp [*]; done)), H', ⟨by have := HJ3.out; have := HJ11.out; first | omega | exact Nat.le_refl _⟩, ⟨by (with_reducible repeat (first | refine blk_drewN ?_ _ | refine blk_drew ?_ | refine blk_alloc ?_ _)); exact BK153.out⟩, ⟨by repeat (first | (with_reducible first | exact HB.out | apply below_alloc | apply pw_below_drewN | apply below_drew1 | refine below_set ?_ GE153.out) | exact HB.out)⟩⟩
         ·
          rw [if_neg c22] at H
          have c22b0 : decide (a0_5 < a0_4) = false := decide_eq_false c22
          clear c22
          by_cases c24 : a0_5 > 16384
          ·
           rw [if_pos c24] at H
           have c24b0 : decide (16384 < a0_5) = true := decide_eq_true c24
           clear c24
           have H' := Aside0.mk H
           clear H
           have hcz25_0 : wc.cell? ⟨gb153, 0, none⟩ = some (.int .u32 a0_0) := (blk_cell BK153.out 0).trans rfl
           have hcz25_1 : wc.cell? ⟨gb153, 1, none⟩ = some (.int .u32 a0_1) := (blk_cell BK153.out 1).trans rfl
           have hcz25_2 : wc.cell? ⟨gb153, 2, none⟩ = some (.int .u64 a0_2) := (blk_cell BK153.out 2).trans rfl
           have hcz25_3 : wc.cell? ⟨gb153, 3, none⟩ = some (.int .u64 a0_3) := (blk_cell BK153.out 3).trans rfl
           have hcz25_4 : wc.cell? ⟨gb153, 4, none⟩ = some (.int .u64 a0_4) := (blk_cell BK153.out 4).trans rfl
           have hcz25_5 : wc.cell? ⟨gb153, 5, none⟩ = some (.int .u64 a0_5) := (blk_cell BK153.out 5).trans rfl
           have hcz25_6 : wc.cell? ⟨gb153, 6, none⟩ = some (.int .u64 a0_6) := (blk_cell BK153.out 6).trans rfl
           have hfz25_0 := blk_frozen BK153.out 0
           have hfz25_1 := blk_frozen BK153.out 1
           have hfz25_2 := blk_frozen BK153.out 2
           have hfz25_3 := blk_frozen BK153.out 3
           have hfz25_4 := blk_frozen BK153.out 4
           have hfz25_5 := blk_frozen BK153.out 5
           have hfz25_6 := blk_frozen BK153.out 6
           go_wp2
           go_meet
           case rel => exact ⟨_, (true), (by first | rfl | (simp; done) | (simp [*]; done)), H', ⟨by have := HJ3.out; have := HJ11.out; first | omega | exact Nat.le_refl _⟩, ⟨by (with_reducible repeat (first | refine blk_drewN ?_ _ | refine blk_drew ?_ | refine blk_alloc ?_ _)); exact BK153.out⟩, ⟨by repeat (first | (with_reducible first | exact HB.out | apply below_alloc | apply pw_below_drewN | apply below_drew1 | refine below_set ?_ GE153.out) | exact HB.out)⟩⟩
          ·
           rw [if_neg c24] at H
           have c24b0 : decide (16384 < a0_5) = false := decide_eq_false c24
           clear c24
           replace H := Option.bind_eq_some_iff.mp H
           obtain ⟨t156, A260, H⟩ := H
           replace H : (head_load.j2 kj11 l1 x7_3 (!t156) a0_0 a0_1 a0_2 a0_3 a0_4 a0_5 a0_6) = some r := H
           have A26 := Aside0.mk A260
           clear A260
           have H' := Aside0.mk H
           clear H
           have hcz27_0 : wc.cell? ⟨gb153, 0, none⟩ = some (.int .u32 a0_0) := (blk_cell BK153.out 0).trans rfl
           have hcz27_1 : wc.cell? ⟨gb153, 1, none⟩ = some (.int .u32 a0_1) := (blk_cell BK153.out 1).trans rfl
           have hcz27_2 : wc.cell? ⟨gb153, 2, none⟩ = some (.int .u64 a0_2) := (blk_cell BK153.out 2).trans rfl
           have hcz27_3 : wc.cell? ⟨gb153, 3, none⟩ = some (.int .u64 a0_3) := (blk_cell BK153.out 3).trans rfl
           have hcz27_4 : wc.cell? ⟨gb153, 4, none⟩ = some (.int .u64 a0_4) := (blk_cell BK153.out 4).trans rfl
           have hcz27_5 : wc.cell? ⟨gb153, 5, none⟩ = some (.int .u64 a0_5) := (blk_cell BK153.out 5).trans rfl
           have hcz27_6 : wc.cell? ⟨gb153, 6, none⟩ = some (.int .u64 a0_6) := (blk_cell BK153.out 6).trans rfl
           have hfz27_0 := blk_frozen BK153.out 0
           have hfz27_1 := blk_frozen BK153.out 1
           have hfz27_2 := blk_frozen BK153.out 2
           have hfz27_3 := blk_frozen BK153.out 3
           have hfz27_4 := blk_frozen BK153.out 4
           have hfz27_5 := blk_frozen BK153.out 5
           have hfz27_6 := blk_frozen BK153.out 6
           go_wp2_with (first | (go_at_call 39; (with_reducible refine (num_Inside.calls a0_2 a0_4 0 a2 t156 _ A26.out).mono ?_); rintro e w' ⟨rfl, ⟨nd, rfl⟩⟩))
           go_meet
           case rel => exact ⟨_, (!t156), (by first | rfl | (simp; done) | (simp [*]; done)), H', ⟨by have := HJ3.out; have := HJ11.out; first | omega | exact Nat.le_refl _⟩, ⟨by (with_reducible repeat (first | refine blk_drewN ?_ _ | refine blk_drew ?_ | refine blk_alloc ?_ _)); exact BK153.out⟩, ⟨by repeat (first | (with_reducible first | exact HB.out | apply below_alloc | apply pw_below_drewN | apply below_drew1 | refine below_set ?_ GE153.out) | exact HB.out)⟩⟩
      ·
       replace c17 := Bool.eq_false_iff.mpr c17
       subst c17
       have H1 : (head_load.j2 kj11 l1 x7_3 true a0_0 a0_1 a0_2 a0_3 a0_4 a0_5 a0_6) = some r := by rw [if_neg (show ¬ (false = true) by decide)] at H; exact H
       clear H
       have H := H1
       clear H1
       have H' := Aside0.mk H
       clear H
       go_wp2
       go_meet
       case rel => exact ⟨_, (true), (by first | rfl | (simp; done) | (simp [*]; done)), H', ⟨by have := HJ3.out; have := HJ11.out; first | omega | exact Nat.le_refl _⟩, ⟨by (with_reducible repeat (first | refine blk_drewN ?_ _ | refine blk_drew ?_ | refine blk_alloc ?_ _)); exact BK153.out⟩, ⟨by repeat (first | (with_reducible first | exact HB.out | apply below_alloc | apply pw_below_drewN | apply below_drew1 | refine below_set ?_ GE153.out) | exact HB.out)⟩⟩
     case rest =>
      clear HC16
      try clear c1
      try clear p1
      try clear q1
      try clear hx1
      try clear c2
      try clear p2
      try clear c4
      try clear c6
      try clear c6b0
      try clear c6b1
      try clear p6
      try clear c8
      try clear c8b0
      try clear c9
      try clear c9b0
      try clear c13
      try clear c13b0
      try clear c13b1
      try clear c15
      try clear p15
      try clear q15
      try clear hx15
      try clear c17
      try clear c18
      try clear c18b0
      try clear c20
      try clear c20b0
      try clear c20b1
      try clear c22
      try clear c22b0
      try clear c24
      try clear c24b0
      try clear hcz14_0
      try clear hcz14_1
      try clear hcz14_2
      try clear hcz14_3
      try clear hcz14_4
      try clear hcz14_5
      try clear hcz14_6
      try clear hcz15_0
      try clear hcz15_1
      try clear hcz15_2
      try clear hcz15_3
      try clear hcz15_4
      try clear hcz15_5
      try clear hcz15_6
      try clear hcz19_0
      try clear hcz19_1
      try clear hcz19_2
      try clear hcz19_3
      try clear hcz19_4
      try clear hcz19_5
      try clear hcz19_6
      try clear hcz21_0
      try clear hcz21_1
      try clear hcz21_2
      try clear hcz21_3
      try clear hcz21_4
      try clear hcz21_5
      try clear hcz21_6
      try clear hcz23_0
      try clear hcz23_1
      try clear hcz23_2
      try clear hcz23_3
      try clear hcz23_4
      try clear hcz23_5
      try clear hcz23_6
      try clear hcz25_0
      try clear hcz25_1
      try clear hcz25_2
      try clear hcz25_3
      try clear hcz25_4
      try clear hcz25_5
      try clear hcz25_6
      try clear hcz27_0
      try clear hcz27_1
      try clear hcz27_2
      try clear hcz27_3
      try clear hcz27_4
      try clear hcz27_5
      try clear hcz27_6
      try clear hfz14_0
      try clear hfz14_1
      try clear hfz14_2
      try clear hfz14_3
      try clear hfz14_4
      try clear hfz14_5
      try clear hfz14_6
      try clear hfz15_0
      try clear hfz15_1
      try clear hfz15_2
      try clear hfz15_3
      try clear hfz15_4
      try clear hfz15_5
      try clear hfz15_6
      try clear hfz19_0
      try clear hfz19_1
      try clear hfz19_2
      try clear hfz19_3
      try clear hfz19_4
      try clear hfz19_5
      try clear hfz19_6
      try clear hfz21_0
      try clear hfz21_1
      try clear hfz21_2
      try clear hfz21_3
      try clear hfz21_4
      try clear hfz21_5
      try clear hfz21_6
      try clear hfz23_0
      try clear hfz23_1
      try clear hfz23_2
      try clear hfz23_3
      try clear hfz23_4
      try clear hfz23_5
      try clear hfz23_6
      try clear hfz25_0
      try clear hfz25_1
      try clear hfz25_2
      try clear hfz25_3
      try clear hfz25_4
      try clear hfz25_5
      try clear hfz25_6
      try clear hfz27_0
      try clear hfz27_1
      try clear hfz27_2
      try clear hfz27_3
      try clear hfz27_4
      try clear hfz27_5
      try clear hfz27_6
      try clear hx154_0
      try clear hx154_1
      try clear hx154_2
      try clear hx154_3
      try clear hx154_4
      try clear hx154_5
      try clear hx154_6
      try clear p1
      try clear p15
      try clear p154
      try clear p2
      try clear p6
      try clear q1
      try clear q15
      try clear q154
      obtain ⟨kq, x62_15, rfl, HA, HJ15, BK153, HB⟩ := hcut
      cases kq with
      | zero => exact absurd HA.out (by simp [head_load.j2])
      | succ kj15 =>
       have H := HA.out
       clear HA
       simp only [head_load.j2] at H
       by_cases c28 : x62_15 = true
       ·
        subst c28
        have H1 : (some false) = some r := by rw [if_pos rfl] at H; exact H
        clear H
        have H := H1
        clear H1
        obtain rfl := Option.some.inj H
        go_wp2
        go_ret
        exact ⟨by first | rfl | (simp [errW_none, errW_some] <;> rfl) | (simp [*, errW_none, errW_some] <;> rfl), by repeat (first | (with_reducible first | exact HB.out | apply below_alloc | apply pw_below_drewN | apply below_drew1 | refine below_set ?_ GE153.out) | exact HB.out)⟩
       ·
        replace c28 := Bool.eq_false_iff.mpr c28
        subst c28
        have H1 : (if (l1.length : Int) = 0 then (if a0_3 = 0 then (if a0_3 < x7_3 then (some false) else (if a0_3 > 16384 then (some false) else ((head_End.f a0_0 a0_1 a0_2 a0_3 a0_4 a0_5 a0_6).bind fun t157 => (some (decide (t157 ≤ 16384)))))) else (some false)) else (if a0_3 < x7_3 then (some false) else (if a0_3 > 16384 then (some false) else ((head_End.f a0_0 a0_1 a0_2 a0_3 a0_4 a0_5 a0_6).bind fun t158 => (some (decide (t158 ≤ 16384))))))) = some r := by rw [if_neg (show ¬ (false = true) by decide)] at H; exact H
        clear H
        have H := H1
        clear H1
        by_cases c29 : (l1.length : Int) = 0
        ·
         rw [if_pos c29] at H
         have c29b0 : ((l1.length : Int) == 0) = true := beq_iff_eq.mpr c29
         have c29b1 : ((l1.length : Int) != 0) = false := bne_eq_false_iff_eq.mpr c29
         clear c29
         by_cases c30 : a0_3 = 0
         ·
          rw [if_pos c30] at H
          have c30b0 : (a0_3 == 0) = true := beq_iff_eq.mpr c30
          have c30b1 : (a0_3 != 0) = false := bne_eq_false_iff_eq.mpr c30
          clear c30
          by_cases c31 : a0_3 < x7_3
          ·
           rw [if_pos c31] at H
           have c31b0 : decide (a0_3 < x7_3) = true := decide_eq_true c31
           clear c31
           obtain rfl := Option.some.inj H
           have hcz32_0 : wc.cell? ⟨gb153, 0, none⟩ = some (.int .u32 a0_0) := (blk_cell BK153.out 0).trans rfl
           have hcz32_1 : wc.cell? ⟨gb153, 1, none⟩ = some (.int .u32 a0_1) := (blk_cell BK153.out 1).trans rfl
           have hcz32_2 : wc.cell? ⟨gb153, 2, none⟩ = some (.int .u64 a0_2) := (blk_cell BK153.out 2).trans rfl
           have hcz32_3 : wc.cell? ⟨gb153, 3, none⟩ = some (.int .u64 a0_3) := (blk_cell BK153.out 3).trans rfl
           have hcz32_4 : wc.cell? ⟨gb153, 4, none⟩ = some (.int .u64 a0_4) := (blk_cell BK153.out 4).trans rfl
           have hcz32_5 : wc.cell? ⟨gb153, 5, none⟩ = some (.int .u64 a0_5) := (blk_cell BK153.out 5).trans rfl
           have hcz32_6 : wc.cell? ⟨gb153, 6, none⟩ = some (.int .u64 a0_6) := (blk_cell BK153.out 6).trans rfl
           have hfz32_0 := blk_frozen BK153.out 0
           have hfz32_1 := blk_frozen BK153.out 1
           have hfz32_2 := blk_frozen BK153.out 2
           have hfz32_3 := blk_frozen BK153.out 3
           have hfz32_4 := blk_frozen BK153.out 4
           have hfz32_5 := blk_frozen BK153.out 5
           have hfz32_6 := blk_frozen BK153.out 6
           go_wp2
           go_ret
           exact ⟨by first | rfl | (simp [errW_none, errW_some] <;> rfl) | (simp [*, errW_none, errW_some] <;> rfl), by repeat (first | (with_reducible first | exact HB.out | apply below_alloc | apply pw_below_drewN | apply below_drew1 | refine below_set ?_ GE153.out) | exact HB.out)⟩
          ·
           rw [if_neg c31] at H
           have c31b0 : decide (a0_3 < x7_3) = false := decide_eq_false c31
           clear c31
           by_cases c33 : a0_3 > 16384
           ·
            rw [if_pos c33] at H
            have c33b0 : decide (16384 < a0_3) = true := decide_eq_true c33
            clear c33
            obtain rfl := Option.some.inj H
            have hcz34_0 : wc.cell? ⟨gb153, 0, none⟩ = some (.int .u32 a0_0) := (blk_cell BK153.out 0).trans rfl
            have hcz34_1 : wc.cell? ⟨gb153, 1, none⟩ = some (.int .u32 a0_1) := (blk_cell BK153.out 1).trans rfl
            have hcz34_2 : wc.cell? ⟨gb153, 2, none⟩ = some (.int .u64 a0_2) := (blk_cell BK153.out 2).trans rfl
            have hcz34_3 : wc.cell? ⟨gb153, 3, none⟩ = some (.int .u64 a0_3) := (blk_cell BK153.out 3).trans rfl
            have hcz34_4 : wc.cell? ⟨gb153, 4, none⟩ = some (.int .u64 a0_4) := (blk_cell BK153.out 4).trans rfl
            have hcz34_5 : wc.cell? ⟨gb153, 5, none⟩ = some (.int .u64 a0_5) := (blk_cell BK153.out 5).trans rfl
            have hcz34_6 : wc.cell? ⟨gb153, 6, none⟩ = some (.int .u64 a0_6) := (blk_cell BK153.out 6).trans rfl
            have hfz34_0 := blk_frozen BK153.out 0
            have hfz34_1 := blk_frozen BK153.out 1
            have hfz34_2 := blk_frozen BK153.out 2
            have hfz34_3 := blk_frozen BK153.out 3
            have hfz34_4 := blk_frozen BK153.out 4
            have hfz34_5 := blk_frozen BK153.out 5
            have hfz34_6 := blk_frozen BK153.out 6
            go_wp2
            go_ret
            exact ⟨by first | rfl | (simp [errW_none, errW_some] <;> rfl) | (simp [*, errW_none, errW_some] <;> rfl), by repeat (first | (with_reducible first | exact HB.out | apply below_alloc | apply pw_below_drewN | apply below_drew1 | refine below_set ?_ GE153.out) | exact HB.out)⟩
           ·
            rw [if_neg c33] at H
            have c33b0 : decide (16384 < a0_3) = false := decide_eq_false c33
            clear c33
            replace H := Option.bind_eq_some_iff.mp H
            obtain ⟨t157, A350, H⟩ := H
            replace H : (some (decide (t157 ≤ 16384))) = some r := H
            have A35 := Aside0.mk A350
            clear A350
            obtain rfl := Option.some.inj H
            have hcz36_0 : wc.cell? ⟨gb153, 0, none⟩ = some (.int .u32 a0_0) := (blk_cell BK153.out 0).trans rfl
            have hcz36_1 : wc.cell? ⟨gb153, 1, none⟩ = some (.int .u32 a0_1) := (blk_cell BK153.out 1).trans rfl
            have hcz36_2 : wc.cell? ⟨gb153, 2, none⟩ = some (.int .u64 a0_2) := (blk_cell BK153.out 2).trans rfl
            have hcz36_3 : wc.cell? ⟨gb153, 3, none⟩ = some (.int .u64 a0_3) := (blk_cell BK153.out 3).trans rfl
            have hcz36_4 : wc.cell? ⟨gb153, 4, none⟩ = some (.int .u64 a0_4) := (blk_cell BK153.out 4).trans rfl
            have hcz36_5 : wc.cell? ⟨gb153, 5, none⟩ = some (.int .u64 a0_5) := (blk_cell BK153.out 5).trans rfl
            have hcz36_6 : wc.cell? ⟨gb153, 6, none⟩ = some (.int .u64 a0_6) := (blk_cell BK153.out 6).trans rfl
            have hfz36_0 := blk_frozen BK153.out 0
            have hfz36_1 := blk_frozen BK153.out 1
            have hfz36_2 := blk_frozen BK153.out 2
            have hfz36_3 := blk_frozen BK153.out 3
            have hfz36_4 := blk_frozen BK153.out 4
            have hfz36_5 := blk_frozen BK153.out 5
            have hfz36_6 := blk_frozen BK153.out 6
            go_wp2_with (first | ((with_reducible refine gate_callee (f := 15) rfl ?_); refine goesL_ (some 83) rfl rfl Try.func15 (by kernel_rfl) rfl #[.agg #[.int .u32 a0_0, .int .u32 a0_1, .int .u64 a0_2, .int .u64 a0_3, .int .u64 a0_4, .int .u64 a0_5, .int .u64 a0_6]] rfl (by (try simp only [List.map_toArray, List.map_cons, List.map_nil]); first | done | rfl | (simp only [List.length_drop, List.length_take]; rfl)) ?_; (with_reducible refine (head_End.calls a0_0 a0_1 a0_2 a0_3 a0_4 a0_5 a0_6 t157 _ A35.out).mono ?_); rintro e w37 ⟨rfl, hb⟩; refine ⟨_, rfl, ?_⟩; have n0_ := Aside0.mk (blk_below (g := gb153) (o := .cells #[.int .u32 a0_0, .int .u32 a0_1, .int .u64 a0_2, .int .u64 a0_3, .int .u64 a0_4, .int .u64 a0_5, .int .u64 a0_6] 32 (0, 0)) (by (with_reducible repeat (first | refine blk_drewN ?_ _ | refine blk_drew ?_ | refine blk_alloc ?_ _)); exact BK153.out) hb); have n1_ := Aside0.mk (below_step (by repeat (first | (with_reducible first | exact HB.out | apply below_alloc | apply pw_below_drewN | apply below_drew1 | refine below_set ?_ GE153.out) | exact HB.out)) hb); clear BK153; clear HB; have BK153 := n0_; have HB := n1_; clear n0_ n1_; (try clear hb); (try clear hb2); (try clear hk); (try clear hi)))
            go_ret
            exact ⟨by first | rfl | (simp [errW_none, errW_some] <;> rfl) | (simp [*, errW_none, errW_some] <;> rfl), by repeat (first | (with_reducible first | exact HB.out | apply below_alloc | apply pw_below_drewN | apply below_drew1 | refine below_set ?_ GE153.out) | exact HB.out)⟩
         ·
          rw [if_neg c30] at H
          have c30b0 : (a0_3 == 0) = false := beq_eq_false_iff_ne.mpr c30
          have c30b1 : (a0_3 != 0) = true := bne_iff_ne.mpr c30
          obtain rfl := Option.some.inj H
          have hcz38_0 : wc.cell? ⟨gb153, 0, none⟩ = some (.int .u32 a0_0) := (blk_cell BK153.out 0).trans rfl
          have hcz38_1 : wc.cell? ⟨gb153, 1, none⟩ = some (.int .u32 a0_1) := (blk_cell BK153.out 1).trans rfl
          have hcz38_2 : wc.cell? ⟨gb153, 2, none⟩ = some (.int .u64 a0_2) := (blk_cell BK153.out 2).trans rfl
          have hcz38_3 : wc.cell? ⟨gb153, 3, none⟩ = some (.int .u64 a0_3) := (blk_cell BK153.out 3).trans rfl
          have hcz38_4 : wc.cell? ⟨gb153, 4, none⟩ = some (.int .u64 a0_4) := (blk_cell BK153.out 4).trans rfl
          have hcz38_5 : wc.cell? ⟨gb153, 5, none⟩ = some (.int .u64 a0_5) := (blk_cell BK153.out 5).trans rfl
          have hcz38_6 : wc.cell? ⟨gb153, 6, none⟩ = some (.int .u64 a0_6) := (blk_cell BK153.out 6).trans rfl
          have hfz38_0 := blk_frozen BK153.out 0
          have hfz38_1 := blk_frozen BK153.out 1
          have hfz38_2 := blk_frozen BK153.out 2
          have hfz38_3 := blk_frozen BK153.out 3
          have hfz38_4 := blk_frozen BK153.out 4
          have hfz38_5 := blk_frozen BK153.out 5
          have hfz38_6 := blk_frozen BK153.out 6
          go_wp2
          go_ret
          exact ⟨by first | rfl | (simp [errW_none, errW_some] <;> rfl) | (simp [*, errW_none, errW_some] <;> rfl), by repeat (first | (with_reducible first | exact HB.out | apply below_alloc | apply pw_below_drewN | apply below_drew1 | refine below_set ?_ GE153.out) | exact HB.out)⟩
        ·
         rw [if_neg c29] at H
         have c29b0 : ((l1.length : Int) == 0) = false := beq_eq_false_iff_ne.mpr c29
         have c29b1 : ((l1.length : Int) != 0) = true := bne_iff_ne.mpr c29
         have c29b2 : ¬ (l1 = []) := fun h_ => c29 (by rw [h_]; rfl)
         by_cases c39 : a0_3 < x7_3
         ·
          rw [if_pos c39] at H
          have c39b0 : decide (a0_3 < x7_3) = true := decide_eq_true c39
          clear c39
          obtain rfl := Option.some.inj H
          have hcz40_0 : wc.cell? ⟨gb153, 0, none⟩ = some (.int .u32 a0_0) := (blk_cell BK153.out 0).trans rfl
          have hcz40_1 : wc.cell? ⟨gb153, 1, none⟩ = some (.int .u32 a0_1) := (blk_cell BK153.out 1).trans rfl
          have hcz40_2 : wc.cell? ⟨gb153, 2, none⟩ = some (.int .u64 a0_2) := (blk_cell BK153.out 2).trans rfl
          have hcz40_3 : wc.cell? ⟨gb153, 3, none⟩ = some (.int .u64 a0_3) := (blk_cell BK153.out 3).trans rfl
          have hcz40_4 : wc.cell? ⟨gb153, 4, none⟩ = some (.int .u64 a0_4) := (blk_cell BK153.out 4).trans rfl
          have hcz40_5 : wc.cell? ⟨gb153, 5, none⟩ = some (.int .u64 a0_5) := (blk_cell BK153.out 5).trans rfl
          have hcz40_6 : wc.cell? ⟨gb153, 6, none⟩ = some (.int .u64 a0_6) := (blk_cell BK153.out 6).trans rfl
          have hfz40_0 := blk_frozen BK153.out 0
          have hfz40_1 := blk_frozen BK153.out 1
          have hfz40_2 := blk_frozen BK153.out 2
          have hfz40_3 := blk_frozen BK153.out 3
          have hfz40_4 := blk_frozen BK153.out 4
          have hfz40_5 := blk_frozen BK153.out 5
          have hfz40_6 := blk_frozen BK153.out 6
          go_wp2
          go_ret
          exact ⟨by first | rfl | (simp [errW_none, errW_some] <;> rfl) | (simp [*, errW_none, errW_some] <;> rfl), by repeat (first | (with_reducible first | exact HB.out | apply below_alloc | apply pw_below_drewN | apply below_drew1 | refine below_set ?_ GE153.out) | exact HB.out)⟩
         ·
          rw [if_neg c39] at H
          have c39b0 : decide (a0_3 < x7_3) = false := decide_eq_false c39
          clear c39
          by_cases c41 : a0_3 > 16384
          ·
           rw [if_pos c41] at H
           have c41b0 : decide (16384 < a0_3) = true := decide_eq_true c41
           clear c41
           obtain rfl := Option.some.inj H
           have hcz42_0 : wc.cell? ⟨gb153, 0, none⟩ = some (.int .u32 a0_0) := (blk_cell BK153.out 0).trans rfl
           have hcz42_1 : wc.cell? ⟨gb153, 1, none⟩ = some (.int .u32 a0_1) := (blk_cell BK153.out 1).trans rfl
           have hcz42_2 : wc.cell? ⟨gb153, 2, none⟩ = some (.int .u64 a0_2) := (blk_cell BK153.out 2).trans rfl
           have hcz42_3 : wc.cell? ⟨gb153, 3, none⟩ = some (.int .u64 a0_3) := (blk_cell BK153.out 3).trans rfl
           have hcz42_4 : wc.cell? ⟨gb153, 4, none⟩ = some (.int .u64 a0_4) := (blk_cell BK153.out 4).trans rfl
           have hcz42_5 : wc.cell? ⟨gb153, 5, none⟩ = some (.int .u64 a0_5) := (blk_cell BK153.out 5).trans rfl
           have hcz42_6 : wc.cell? ⟨gb153, 6, none⟩ = some (.int .u64 a0_6) := (blk_cell BK153.out 6).trans rfl
           have hfz42_0 := blk_frozen BK153.out 0
           have hfz42_1 := blk_frozen BK153.out 1
           have hfz42_2 := blk_frozen BK153.out 2
           have hfz42_3 := blk_frozen BK153.out 3
           have hfz42_4 := blk_frozen BK153.out 4
           have hfz42_5 := blk_frozen BK153.out 5
           have hfz42_6 := blk_frozen BK153.out 6
           go_wp2
           go_ret
           exact ⟨by first | rfl | (simp [errW_none, errW_some] <;> rfl) | (simp [*, errW_none, errW_some] <;> rfl), by repeat (first | (with_reducible first | exact HB.out | apply below_alloc | apply pw_below_drewN | apply below_drew1 | refine below_set ?_ GE153.out) | exact HB.out)⟩
          ·
           rw [if_neg c41] at H
           have c41b0 : decide (16384 < a0_3) = false := decide_eq_false c41
           clear c41
           replace H := Option.bind_eq_some_iff.mp H
           obtain ⟨t158, A430, H⟩ := H
           replace H : (some (decide (t158 ≤ 16384))) = some r := H
           have A43 := Aside0.mk A430
           clear A430
           obtain rfl := Option.some.inj H
           have hcz44_0 : wc.cell? ⟨gb153, 0, none⟩ = some (.int .u32 a0_0) := (blk_cell BK153.out 0).trans rfl
           have hcz44_1 : wc.cell? ⟨gb153, 1, none⟩ = some (.int .u32 a0_1) := (blk_cell BK153.out 1).trans rfl
           have hcz44_2 : wc.cell? ⟨gb153, 2, none⟩ = some (.int .u64 a0_2) := (blk_cell BK153.out 2).trans rfl
           have hcz44_3 : wc.cell? ⟨gb153, 3, none⟩ = some (.int .u64 a0_3) := (blk_cell BK153.out 3).trans rfl
           have hcz44_4 : wc.cell? ⟨gb153, 4, none⟩ = some (.int .u64 a0_4) := (blk_cell BK153.out 4).trans rfl
           have hcz44_5 : wc.cell? ⟨gb153, 5, none⟩ = some (.int .u64 a0_5) := (blk_cell BK153.out 5).trans rfl
           have hcz44_6 : wc.cell? ⟨gb153, 6, none⟩ = some (.int .u64 a0_6) := (blk_cell BK153.out 6).trans rfl
           have hfz44_0 := blk_frozen BK153.out 0
           have hfz44_1 := blk_frozen BK153.out 1
           have hfz44_2 := blk_frozen BK153.out 2
           have hfz44_3 := blk_frozen BK153.out 3
           have hfz44_4 := blk_frozen BK153.out 4
           have hfz44_5 := blk_frozen BK153.out 5
           have hfz44_6 := blk_frozen BK153.out 6
           go_wp2_with (first | ((with_reducible refine gate_callee (f := 15) rfl ?_); refine goesL_ (some 83) rfl rfl Try.func15 (by kernel_rfl) rfl #[.agg #[.int .u32 a0_0, .int .u32 a0_1, .int .u64 a0_2, .int .u64 a0_3, .int .u64 a0_4, .int .u64 a0_5, .int .u64 a0_6]] rfl (by (try simp only [List.map_toArray, List.map_cons, List.map_nil]); first | done | rfl | (simp only [List.length_drop, List.length_take]; rfl)) ?_; (with_reducible refine (head_End.calls a0_0 a0_1 a0_2 a0_3 a0_4 a0_5 a0_6 t158 _ A43.out).mono ?_); rintro e w45 ⟨rfl, hb⟩; refine ⟨_, rfl, ?_⟩; have n0_ := Aside0.mk (blk_below (g := gb153) (o := .cells #[.int .u32 a0_0, .int .u32 a0_1, .int .u64 a0_2, .int .u64 a0_3, .int .u64 a0_4, .int .u64 a0_5, .int .u64 a0_6] 32 (0, 0)) (by (with_reducible repeat (first | refine blk_drewN ?_ _ | refine blk_drew ?_ | refine blk_alloc ?_ _)); exact BK153.out) hb); have n1_ := Aside0.mk (below_step (by repeat (first | (with_reducible first | exact HB.out | apply below_alloc | apply pw_below_drewN | apply below_drew1 | refine below_set ?_ GE153.out) | exact HB.out)) hb); clear BK153; clear HB; have BK153 := n0_; have HB := n1_; clear n0_ n1_; (try clear hb); (try clear hb2); (try clear hk); (try clear hi)))
           go_ret
           exact ⟨by first | rfl | (simp [errW_none, errW_some] <;> rfl) | (simp [*, errW_none, errW_some] <;> rfl), by repeat (first | (with_reducible first | exact HB.out | apply below_alloc | apply pw_below_drewN | apply below_drew1 | refine below_set ?_ GE153.out) | exact HB.out)⟩

end Go.Proofs.Ytlegpojjbeglhaa.P
