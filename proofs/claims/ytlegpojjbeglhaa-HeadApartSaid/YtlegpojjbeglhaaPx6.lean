/- For functions of this seat: a plain Lean function each, and the proof that the call answers so; written by a program of this session out of the translation. No condition beyond those that stand in each theorem. -/
import Derived.Test.YtlegpojjbeglhaaPx0
import Derived.Test.YtlegpojjbeglhaaPx2
import Derived.Test.YtlegpojjbeglhaaPx4
namespace Go.Proofs.Ytlegpojjbeglhaa.P
open Go.RowKit Go.Proofs.YtlegpojjbeglhaaW.PrintWords Go.Proofs.YtlegpojjbeglhaaW.PrintLast Go.Proofs.YtlegpojjbeglhaaW.PrintMore
attribute [local go_sem] max2_int min2_int max_two min_two max_three min_three max_four min_four   -- for this text's walks alone
set_option linter.unusedVariables false
set_option linter.unusedSimpArgs false

/-! ### head_relro: function 45 -/
mutual
def head_relro.j0 : Nat → Bool → Int → List (S32) → Int → Int → Int → Int → Int → Int → Int → Int → Int → Int → Int → Int → Int → Int → Option (Bool)
 | 0, _, _, _, _, _, _, _, _, _, _, _, _, _, _, _, _, _ => none
 | k + 1, x15, x160000, x160001, x160002, x160003, x160004, x160005, x160006, x160007, x160008, x160009, x160010, x160011, x160012, x160013, x160014, x160015 => if x15 = true then (some false) else (head_relro.l0 k x160001 (x160001.length : Int) 0 x160000 x160001 x160002 x160003 x160004 x160005 x160006 x160007 x160008 x160009 x160010 x160011 x160012 x160013 x160014 x160015)
def head_relro.l0 : Nat → List (S32) → Int → Int → Int → List (S32) → Int → Int → Int → Int → Int → Int → Int → Int → Int → Int → Int → Int → Int → Int → Option (Bool)
 | 0, _, _, _, _, _, _, _, _, _, _, _, _, _, _, _, _, _, _, _ => none
 | k + 1, x17, x18, x19, x160000, x160001, x160002, x160003, x160004, x160005, x160006, x160007, x160008, x160009, x160010, x160011, x160012, x160013, x160014, x160015 => if x19 < x18 then (if 0 ≤ x19 then (if x19 < (x17.length : Int) then ((head_End.f ((rd_T32 x17 x19).f0) ((rd_T32 x17 x19).f1) ((rd_T32 x17 x19).f2) ((rd_T32 x17 x19).f3) ((rd_T32 x17 x19).f4) ((rd_T32 x17 x19).f5) ((rd_T32 x17 x19).f6)).bind fun t162 => ((num_Inside.f x160012 x160014 ((rd_T32 x17 x19).f3) (IntKind.u64.wrap (t162 - ((rd_T32 x17 x19).f3)))).bind fun t163 => (if t163 = true then (some ((Go.bits .and .u32 ((rd_T32 x17 x19).f1) 2) != 0)) else (head_relro.l0 k x17 x18 (wrap64 (x19 + 1)) x160000 x160001 x160002 x160003 x160004 x160005 x160006 x160007 x160008 x160009 x160010 x160011 x160012 x160013 x160014 x160015)))) else (none)) else (none)) else (some false)
end
def head_relro.f (k : Nat) (a0_0 : Int) (l0_1 : List (S32)) (a0_2 : Int) (a0_3 : Int) (a0_4 : Int) (a0_5 : Int) (a0_6 : Int) (a0_7 : Int) (a0_8 : Int) (a0_9 : Int) (a0_10 : Int) (a0_11 : Int) (a0_12 : Int) (a0_13 : Int) (a0_14 : Int) (a0_15 : Int) : Option (Bool) := if a0_14 = 0 then (head_relro.j0 k true a0_0 l0_1 a0_2 a0_3 a0_4 a0_5 a0_6 a0_7 a0_8 a0_9 a0_10 a0_11 a0_12 a0_13 a0_14 a0_15) else (head_relro.j0 k ((Int.tmod a0_12 256) != 0) a0_0 l0_1 a0_2 a0_3 a0_4 a0_5 a0_6 a0_7 a0_8 a0_9 a0_10 a0_11 a0_12 a0_13 a0_14 a0_15)
theorem head_relro.mono_l : ∀ k, (∀ y0 y1 y2 y3 y4 y5 y6 y7 y8 y9 y10 y11 y12 y13 y14 y15 y16, LeO (head_relro.j0 k y0 y1 y2 y3 y4 y5 y6 y7 y8 y9 y10 y11 y12 y13 y14 y15 y16) (head_relro.j0 (k + 1) y0 y1 y2 y3 y4 y5 y6 y7 y8 y9 y10 y11 y12 y13 y14 y15 y16)) ∧ (∀ y0 y1 y2 y3 y4 y5 y6 y7 y8 y9 y10 y11 y12 y13 y14 y15 y16 y17 y18, LeO (head_relro.l0 k y0 y1 y2 y3 y4 y5 y6 y7 y8 y9 y10 y11 y12 y13 y14 y15 y16 y17 y18) (head_relro.l0 (k + 1) y0 y1 y2 y3 y4 y5 y6 y7 y8 y9 y10 y11 y12 y13 y14 y15 y16 y17 y18))
 | 0 => ⟨fun _ _ _ _ _ _ _ _ _ _ _ _ _ _ _ _ _ r h => by simp [head_relro.j0] at h, fun _ _ _ _ _ _ _ _ _ _ _ _ _ _ _ _ _ _ _ r h => by simp [head_relro.l0] at h⟩
 | k + 1 => by
  obtain ⟨ih0, ih1⟩ := head_relro.mono_l k
  refine ⟨?_, ?_⟩
  ·
   intro y0 y1 y2 y3 y4 y5 y6 y7 y8 y9 y10 y11 y12 y13 y14 y15 y16
   unfold head_relro.j0
   repeat' first
   | (with_reducible exact ih0 _ _ _ _ _ _ _ _ _ _ _ _ _ _ _ _ _)
   | (with_reducible exact ih1 _ _ _ _ _ _ _ _ _ _ _ _ _ _ _ _ _ _ _)
   | (with_reducible exact LeO.refl _)
   | (with_reducible exact LeO.none _)
   | (with_reducible refine LeO.ite ?_ ?_)
   | (with_reducible refine LeO.bind ?_ (fun _ => ?_))
   | exact ih0 _ _ _ _ _ _ _ _ _ _ _ _ _ _ _ _ _
   | exact ih1 _ _ _ _ _ _ _ _ _ _ _ _ _ _ _ _ _ _ _
   | exact LeO.none _
   | refine LeO.ite ?_ ?_
   | refine LeO.bind ?_ (fun _ => ?_)
  ·
   intro y0 y1 y2 y3 y4 y5 y6 y7 y8 y9 y10 y11 y12 y13 y14 y15 y16 y17 y18
   unfold head_relro.l0
   repeat' first
   | (with_reducible exact ih0 _ _ _ _ _ _ _ _ _ _ _ _ _ _ _ _ _)
   | (with_reducible exact ih1 _ _ _ _ _ _ _ _ _ _ _ _ _ _ _ _ _ _ _)
   | (with_reducible exact LeO.refl _)
   | (with_reducible exact LeO.none _)
   | (with_reducible refine LeO.ite ?_ ?_)
   | (with_reducible refine LeO.bind ?_ (fun _ => ?_))
   | exact ih0 _ _ _ _ _ _ _ _ _ _ _ _ _ _ _ _ _
   | exact ih1 _ _ _ _ _ _ _ _ _ _ _ _ _ _ _ _ _ _ _
   | exact LeO.none _
   | refine LeO.ite ?_ ?_
   | refine LeO.bind ?_ (fun _ => ?_)
theorem head_relro.mono : ∀ a0 a1 a2 a3 a4 a5 a6 a7 a8 a9 a10 a11 a12 a13 a14 a15 k, LeO (head_relro.f k a0 a1 a2 a3 a4 a5 a6 a7 a8 a9 a10 a11 a12 a13 a14 a15) (head_relro.f (k + 1) a0 a1 a2 a3 a4 a5 a6 a7 a8 a9 a10 a11 a12 a13 a14 a15) := by
 intro a0 a1 a2 a3 a4 a5 a6 a7 a8 a9 a10 a11 a12 a13 a14 a15 k
 obtain ⟨ih0, ih1⟩ := head_relro.mono_l k
 unfold head_relro.f
 repeat' first
   | (with_reducible exact ih0 _ _ _ _ _ _ _ _ _ _ _ _ _ _ _ _ _)
   | (with_reducible exact ih1 _ _ _ _ _ _ _ _ _ _ _ _ _ _ _ _ _ _ _)
   | (with_reducible exact LeO.refl _)
   | (with_reducible exact LeO.none _)
   | (with_reducible refine LeO.ite ?_ ?_)
   | (with_reducible refine LeO.bind ?_ (fun _ => ?_))
   | exact ih0 _ _ _ _ _ _ _ _ _ _ _ _ _ _ _ _ _
   | exact ih1 _ _ _ _ _ _ _ _ _ _ _ _ _ _ _ _ _ _ _
   | exact LeO.none _
   | refine LeO.ite ?_ ?_
   | refine LeO.bind ?_ (fun _ => ?_)
def head_relro.T6 : Bool × List (List Nat × List Nat) := (true, [([], []), ([0], [0]), ([1], [1]), ([], []), ([3], [3]), ([4], [4]), ([], []), ([6], [6]), ([], []), ([8], [8]), ([], []), ([10], [10]), ([9, 11], [9, 11]), ([2, 5, 7, 12, 9], [2, 5, 7, 12])])
def head_relro.B6 : List Nat := [0, 1, 3, 0, 8, 24, 0, 64, 0, 256, 0, 1024, 3840, 8191]
theorem head_relro.tab6 : rtab .any (opsOf Try.f45 6) = head_relro.T6 := by kernel_rfl
theorem head_relro.bits6 : waitsOk head_relro.T6.2 head_relro.B6 = true := by kernel_rfl
set_option maxHeartbeats 8000000 in
set_option maxRecDepth 100000 in
theorem head_relro.calls (k : Nat) (a0_0 : Int) (A0_1 : Option Addr) (c0_1 : Nat) (l0_1 : List (S32)) (a0_2 : Int) (a0_3 : Int) (a0_4 : Int) (a0_5 : Int) (a0_6 : Int) (a0_7 : Int) (a0_8 : Int) (a0_9 : Int) (a0_10 : Int) (a0_11 : Int) (a0_12 : Int) (a0_13 : Int) (a0_14 : Int) (a0_15 : Int) (r : Bool) (w : World) (hr0_1 : Kd.C k32 w A0_1 l0_1.length l0_1) (hc0_1 : l0_1.length ≤ c0_1) (h : head_relro.f k a0_0 l0_1 a0_2 a0_3 a0_4 a0_5 a0_6 a0_7 a0_8 a0_9 a0_10 a0_11 a0_12 a0_13 a0_14 a0_15 = some r) :
  Calls Try.prog 45 #[.agg #[.int .u16 a0_0, .slice A0_1 l0_1.length c0_1, .int .u32 a0_2, .int .u32 a0_3, .int .u64 a0_4, .int .u64 a0_5, .int .u64 a0_6, .int .u64 a0_7, .int .u64 a0_8, .int .u32 a0_9, .int .u32 a0_10, .int .u64 a0_11, .int .u64 a0_12, .int .u64 a0_13, .int .u64 a0_14, .int .u64 a0_15]] w fun e w' => e = .returned (.bool r) ∧ Below w.heap.size w w' := by
 have hu37 := Try.underlying37
 have hu32 := Try.underlying32
 have HR0_1 := Aside0.mk hr0_1
 have HC0_1 := Aside0.mk hc0_1
 clear hr0_1 hc0_1
 have HB := Aside0.mk (Below.refl w.heap.size w)
 have H : (if a0_14 = 0 then (head_relro.j0 k true a0_0 l0_1 a0_2 a0_3 a0_4 a0_5 a0_6 a0_7 a0_8 a0_9 a0_10 a0_11 a0_12 a0_13 a0_14 a0_15) else (head_relro.j0 k ((Int.tmod a0_12 256) != 0) a0_0 l0_1 a0_2 a0_3 a0_4 a0_5 a0_6 a0_7 a0_8 a0_9 a0_10 a0_11 a0_12 a0_13 a0_14 a0_15)) = some r := h
 clear h
 have HC2 := Aside0.mk H
 clear H
 go_enter Try.func45, Try.ntmps45
 go_upto_region 1 with (first | ((with_reducible refine gate_dst (N := 1) rfl ?_); refine box_event ?hg (N := 1) ?hd (cs := #[.int .u16 a0_0, .slice A0_1 l0_1.length c0_1, .int .u32 a0_2, .int .u32 a0_3, .int .u64 a0_4, .int .u64 a0_5, .int .u64 a0_6, .int .u64 a0_7, .int .u64 a0_8, .int .u32 a0_9, .int .u32 a0_10, .int .u64 a0_11, .int .u64 a0_12, .int .u64 a0_13, .int .u64 a0_14, .int .u64 a0_15]) (t := 37) ?hr ?_; (case hd => rfl); (case hg => rfl); (case hr => first | (go_simp; done) | (go_simp; rfl)); intro gb159 hg w3 hbox hb; have n0_ := Aside0.mk (below_step (by repeat (first | (with_reducible first | exact HB.out | apply below_alloc | apply pw_below_drewN | apply below_drew1) | exact HB.out)) hb); have n1_ := Aside0.mk (hbox); have n2_ := Aside0.mk ((by rw [hg]; exact (below_size (by repeat (first | (with_reducible first | exact HB.out | apply below_alloc | apply pw_below_drewN | apply below_drew1) | exact HB.out))) : w.heap.size ≤ gb159)); have n3_ := Aside0.mk ((by rw [hg]; exact (below_size (by repeat (first | (with_reducible first | exact HB.out | apply below_alloc | apply pw_below_drewN | apply below_drew1) | exact HB.out))) : w.heap.size ≤ gb159)); clear HB; have HB := n0_; have BK159 := n1_; have GW159 := n2_; have GE159 := n3_; clear n0_ n1_ n2_ n3_; clear hb hbox hg))
 (try simp only [Act.put, List.setIfInBounds_toArray, List.set_cons_zero, List.set_cons_succ])
 go_cut [15] (fun v15 wc => ∃ (kq : Nat) (x15_1 : Bool), v15 = .bool x15_1 ∧ Aside0 (head_relro.j0 kq x15_1 a0_0 l0_1 a0_2 a0_3 a0_4 a0_5 a0_6 a0_7 a0_8 a0_9 a0_10 a0_11 a0_12 a0_13 a0_14 a0_15 = some r) ∧ Aside0 (kq ≤ k) ∧ Aside0 (wc.heap[gb159]? = some (.cells #[.int .u16 a0_0, (.slice A0_1 l0_1.length c0_1), .int .u32 a0_2, .int .u32 a0_3, .int .u64 a0_4, .int .u64 a0_5, .int .u64 a0_6, .int .u64 a0_7, .int .u64 a0_8, .int .u32 a0_9, .int .u32 a0_10, .int .u64 a0_11, .int .u64 a0_12, .int .u64 a0_13, .int .u64 a0_14, .int .u64 a0_15] 37 (0, 0))) ∧ Aside0 (Below w.heap.size w wc))
 case first =>
  have H := HC2.out
  clear HC2
  by_cases c4 : a0_14 = 0
  ·
   rw [if_pos c4] at H
   have c4b0 : (a0_14 == 0) = true := beq_iff_eq.mpr c4
   have c4b1 : (a0_14 != 0) = false := bne_eq_false_iff_eq.mpr c4
   clear c4
   (first | rw [c4b0] | (simp only [i64_w, i32_w]; rw [c4b0]) | skip)
   have H' := Aside0.mk H
   clear H
   have hcz5_0 : w3.cell? ⟨gb159, 0, none⟩ = some (.int .u16 a0_0) := (blk_cell BK159.out 0).trans rfl
   have hcz5_1 : w3.cell? ⟨gb159, 1, none⟩ = some (.slice A0_1 l0_1.length c0_1) := (blk_cell BK159.out 1).trans rfl
   have hcz5_2 : w3.cell? ⟨gb159, 2, none⟩ = some (.int .u32 a0_2) := (blk_cell BK159.out 2).trans rfl
   have hcz5_3 : w3.cell? ⟨gb159, 3, none⟩ = some (.int .u32 a0_3) := (blk_cell BK159.out 3).trans rfl
   have hcz5_4 : w3.cell? ⟨gb159, 4, none⟩ = some (.int .u64 a0_4) := (blk_cell BK159.out 4).trans rfl
   have hcz5_5 : w3.cell? ⟨gb159, 5, none⟩ = some (.int .u64 a0_5) := (blk_cell BK159.out 5).trans rfl
   have hcz5_6 : w3.cell? ⟨gb159, 6, none⟩ = some (.int .u64 a0_6) := (blk_cell BK159.out 6).trans rfl
   have hcz5_7 : w3.cell? ⟨gb159, 7, none⟩ = some (.int .u64 a0_7) := (blk_cell BK159.out 7).trans rfl
   have hcz5_8 : w3.cell? ⟨gb159, 8, none⟩ = some (.int .u64 a0_8) := (blk_cell BK159.out 8).trans rfl
   have hcz5_9 : w3.cell? ⟨gb159, 9, none⟩ = some (.int .u32 a0_9) := (blk_cell BK159.out 9).trans rfl
   have hcz5_10 : w3.cell? ⟨gb159, 10, none⟩ = some (.int .u32 a0_10) := (blk_cell BK159.out 10).trans rfl
   have hcz5_11 : w3.cell? ⟨gb159, 11, none⟩ = some (.int .u64 a0_11) := (blk_cell BK159.out 11).trans rfl
   have hcz5_12 : w3.cell? ⟨gb159, 12, none⟩ = some (.int .u64 a0_12) := (blk_cell BK159.out 12).trans rfl
   have hcz5_13 : w3.cell? ⟨gb159, 13, none⟩ = some (.int .u64 a0_13) := (blk_cell BK159.out 13).trans rfl
   have hcz5_14 : w3.cell? ⟨gb159, 14, none⟩ = some (.int .u64 a0_14) := (blk_cell BK159.out 14).trans rfl
   have hcz5_15 : w3.cell? ⟨gb159, 15, none⟩ = some (.int .u64 a0_15) := (blk_cell BK159.out 15).trans rfl
   have hfz5_0 := blk_frozen BK159.out 0
   have hfz5_1 := blk_frozen BK159.out 1
   have hfz5_2 := blk_frozen BK159.out 2
   have hfz5_3 := blk_frozen BK159.out 3
   have hfz5_4 := blk_frozen BK159.out 4
   have hfz5_5 := blk_frozen BK159.out 5
   have hfz5_6 := blk_frozen BK159.out 6
   have hfz5_7 := blk_frozen BK159.out 7
   have hfz5_8 := blk_frozen BK159.out 8
   have hfz5_9 := blk_frozen BK159.out 9
   have hfz5_10 := blk_frozen BK159.out 10
   have hfz5_11 := blk_frozen BK159.out 11
   have hfz5_12 := blk_frozen BK159.out 12
   have hfz5_13 := blk_frozen BK159.out 13
   have hfz5_14 := blk_frozen BK159.out 14
   have hfz5_15 := blk_frozen BK159.out 15
   go_wp2
   go_meet
   case rel => exact ⟨_, (true), (by first | rfl | (simp; done) | (simp [*]; done)), H', ⟨by first | omega | exact Nat.le_refl _⟩, ⟨by (with_reducible repeat (first | refine blk_drewN ?_ _ | refine blk_drew ?_ | refine blk_alloc ?_ _)); exact BK159.out⟩, ⟨by repeat (first | (with_reducible first | exact HB.out | apply below_alloc | apply pw_below_drewN | apply below_drew1 | refine below_set ?_ GE159.out) | exact HB.out)⟩⟩
  ·
   rw [if_neg c4] at H
   have c4b0 : (a0_14 == 0) = false := beq_eq_false_iff_ne.mpr c4
   have c4b1 : (a0_14 != 0) = true := bne_iff_ne.mpr c4
   (first | rw [c4b0] | (simp only [i64_w, i32_w]; rw [c4b0]) | skip)
   have H' := Aside0.mk H
   clear H
   have hcz6_0 : w3.cell? ⟨gb159, 0, none⟩ = some (.int .u16 a0_0) := (blk_cell BK159.out 0).trans rfl
   have hcz6_1 : w3.cell? ⟨gb159, 1, none⟩ = some (.slice A0_1 l0_1.length c0_1) := (blk_cell BK159.out 1).trans rfl
   have hcz6_2 : w3.cell? ⟨gb159, 2, none⟩ = some (.int .u32 a0_2) := (blk_cell BK159.out 2).trans rfl
   have hcz6_3 : w3.cell? ⟨gb159, 3, none⟩ = some (.int .u32 a0_3) := (blk_cell BK159.out 3).trans rfl
   have hcz6_4 : w3.cell? ⟨gb159, 4, none⟩ = some (.int .u64 a0_4) := (blk_cell BK159.out 4).trans rfl
   have hcz6_5 : w3.cell? ⟨gb159, 5, none⟩ = some (.int .u64 a0_5) := (blk_cell BK159.out 5).trans rfl
   have hcz6_6 : w3.cell? ⟨gb159, 6, none⟩ = some (.int .u64 a0_6) := (blk_cell BK159.out 6).trans rfl
   have hcz6_7 : w3.cell? ⟨gb159, 7, none⟩ = some (.int .u64 a0_7) := (blk_cell BK159.out 7).trans rfl
   have hcz6_8 : w3.cell? ⟨gb159, 8, none⟩ = some (.int .u64 a0_8) := (blk_cell BK159.out 8).trans rfl
   have hcz6_9 : w3.cell? ⟨gb159, 9, none⟩ = some (.int .u32 a0_9) := (blk_cell BK159.out 9).trans rfl
   have hcz6_10 : w3.cell? ⟨gb159, 10, none⟩ = some (.int .u32 a0_10) := (blk_cell BK159.out 10).trans rfl
   have hcz6_11 : w3.cell? ⟨gb159, 11, none⟩ = some (.int .u64 a0_11) := (blk_cell BK159.out 11).trans rfl
   have hcz6_12 : w3.cell? ⟨gb159, 12, none⟩ = some (.int .u64 a0_12) := (blk_cell BK159.out 12).trans rfl
   have hcz6_13 : w3.cell? ⟨gb159, 13, none⟩ = some (.int .u64 a0_13) := (blk_cell BK159.out 13).trans rfl
   have hcz6_14 : w3.cell? ⟨gb159, 14, none⟩ = some (.int .u64 a0_14) := (blk_cell BK159.out 14).trans rfl
   have hcz6_15 : w3.cell? ⟨gb159, 15, none⟩ = some (.int .u64 a0_15) := (blk_cell BK159.out 15).trans rfl
   have hfz6_0 := blk_frozen BK159.out 0
   have hfz6_1 := blk_frozen BK159.out 1
   have hfz6_2 := blk_frozen BK159.out 2
   have hfz6_3 := blk_frozen BK159.out 3
   have hfz6_4 := blk_frozen BK159.out 4
   have hfz6_5 := blk_frozen BK159.out 5
   have hfz6_6 := blk_frozen BK159.out 6
   have hfz6_7 := blk_frozen BK159.out 7
   have hfz6_8 := blk_frozen BK159.out 8
   have hfz6_9 := blk_frozen BK159.out 9
   have hfz6_10 := blk_frozen BK159.out 10
   have hfz6_11 := blk_frozen BK159.out 11
   have hfz6_12 := blk_frozen BK159.out 12
   have hfz6_13 := blk_frozen BK159.out 13
   have hfz6_14 := blk_frozen BK159.out 14
   have hfz6_15 := blk_frozen BK159.out 15
   go_wp2
   go_meet
   case rel => exact ⟨_, (((Int.tmod a0_12 256) != 0)), (by first | rfl | (simp; done) | (simp [*]; done)), H', ⟨by first | omega | exact Nat.le_refl _⟩, ⟨by (with_reducible repeat (first | refine blk_drewN ?_ _ | refine blk_drew ?_ | refine blk_alloc ?_ _)); exact BK159.out⟩, ⟨by repeat (first | (with_reducible first | exact HB.out | apply below_alloc | apply pw_below_drewN | apply below_drew1 | refine below_set ?_ GE159.out) | exact HB.out)⟩⟩
 case rest =>
  clear HC2
  try clear p2
  try clear c4
  try clear c4b0
  try clear c4b1
  try clear hcz5_0
  try clear hcz5_1
  try clear hcz5_10
  try clear hcz5_11
  try clear hcz5_12
  try clear hcz5_13
  try clear hcz5_14
  try clear hcz5_15
  try clear hcz5_2
  try clear hcz5_3
  try clear hcz5_4
  try clear hcz5_5
  try clear hcz5_6
  try clear hcz5_7
  try clear hcz5_8
  try clear hcz5_9
  try clear hcz6_0
  try clear hcz6_1
  try clear hcz6_10
  try clear hcz6_11
  try clear hcz6_12
  try clear hcz6_13
  try clear hcz6_14
  try clear hcz6_15
  try clear hcz6_2
  try clear hcz6_3
  try clear hcz6_4
  try clear hcz6_5
  try clear hcz6_6
  try clear hcz6_7
  try clear hcz6_8
  try clear hcz6_9
  try clear hfz5_0
  try clear hfz5_1
  try clear hfz5_10
  try clear hfz5_11
  try clear hfz5_12
  try clear hfz5_13
  try clear hfz5_14
  try clear hfz5_15
  try clear hfz5_2
  try clear hfz5_3
  try clear hfz5_4
  try clear hfz5_5
  try clear hfz5_6
  try clear hfz5_7
  try clear hfz5_8
  try clear hfz5_9
  try clear hfz6_0
  try clear hfz6_1
  try clear hfz6_10
  try clear hfz6_11
  try clear hfz6_12
  try clear hfz6_13
  try clear hfz6_14
  try clear hfz6_15
  try clear hfz6_2
  try clear hfz6_3
  try clear hfz6_4
  try clear hfz6_5
  try clear hfz6_6
  try clear hfz6_7
  try clear hfz6_8
  try clear hfz6_9
  obtain ⟨kq, x15_1, rfl, HA, HJ1, BK159, HB⟩ := hcut
  cases kq with
  | zero => exact absurd HA.out (by simp [head_relro.j0])
  | succ kj1 =>
   have H := HA.out
   clear HA
   simp only [head_relro.j0] at H
   by_cases c7 : x15_1 = true
   ·
    subst c7
    have H1 : (some false) = some r := by rw [if_pos rfl] at H; exact H
    clear H
    have H := H1
    clear H1
    obtain rfl := Option.some.inj H
    go_wp2
    go_ret
    exact ⟨by first | rfl | (simp [errW_none, errW_some] <;> rfl) | (simp [*, errW_none, errW_some] <;> rfl), by repeat (first | (with_reducible first | exact HB.out | apply below_alloc | apply pw_below_drewN | apply below_drew1 | refine below_set ?_ GE159.out) | exact HB.out)⟩
   ·
    replace c7 := Bool.eq_false_iff.mpr c7
    subst c7
    have H1 : (head_relro.l0 kj1 l0_1 (l0_1.length : Int) 0 a0_0 l0_1 a0_2 a0_3 a0_4 a0_5 a0_6 a0_7 a0_8 a0_9 a0_10 a0_11 a0_12 a0_13 a0_14 a0_15) = some r := by rw [if_neg (show ¬ (false = true) by decide)] at H; exact H
    clear H
    have H := H1
    clear H1
    have H' := Aside0.mk H
    clear H
    have hcz8_0 : wc.cell? ⟨gb159, 0, none⟩ = some (.int .u16 a0_0) := (blk_cell BK159.out 0).trans rfl
    have hcz8_1 : wc.cell? ⟨gb159, 1, none⟩ = some (.slice A0_1 l0_1.length c0_1) := (blk_cell BK159.out 1).trans rfl
    have hcz8_2 : wc.cell? ⟨gb159, 2, none⟩ = some (.int .u32 a0_2) := (blk_cell BK159.out 2).trans rfl
    have hcz8_3 : wc.cell? ⟨gb159, 3, none⟩ = some (.int .u32 a0_3) := (blk_cell BK159.out 3).trans rfl
    have hcz8_4 : wc.cell? ⟨gb159, 4, none⟩ = some (.int .u64 a0_4) := (blk_cell BK159.out 4).trans rfl
    have hcz8_5 : wc.cell? ⟨gb159, 5, none⟩ = some (.int .u64 a0_5) := (blk_cell BK159.out 5).trans rfl
    have hcz8_6 : wc.cell? ⟨gb159, 6, none⟩ = some (.int .u64 a0_6) := (blk_cell BK159.out 6).trans rfl
    have hcz8_7 : wc.cell? ⟨gb159, 7, none⟩ = some (.int .u64 a0_7) := (blk_cell BK159.out 7).trans rfl
    have hcz8_8 : wc.cell? ⟨gb159, 8, none⟩ = some (.int .u64 a0_8) := (blk_cell BK159.out 8).trans rfl
    have hcz8_9 : wc.cell? ⟨gb159, 9, none⟩ = some (.int .u32 a0_9) := (blk_cell BK159.out 9).trans rfl
    have hcz8_10 : wc.cell? ⟨gb159, 10, none⟩ = some (.int .u32 a0_10) := (blk_cell BK159.out 10).trans rfl
    have hcz8_11 : wc.cell? ⟨gb159, 11, none⟩ = some (.int .u64 a0_11) := (blk_cell BK159.out 11).trans rfl
    have hcz8_12 : wc.cell? ⟨gb159, 12, none⟩ = some (.int .u64 a0_12) := (blk_cell BK159.out 12).trans rfl
    have hcz8_13 : wc.cell? ⟨gb159, 13, none⟩ = some (.int .u64 a0_13) := (blk_cell BK159.out 13).trans rfl
    have hcz8_14 : wc.cell? ⟨gb159, 14, none⟩ = some (.int .u64 a0_14) := (blk_cell BK159.out 14).trans rfl
    have hcz8_15 : wc.cell? ⟨gb159, 15, none⟩ = some (.int .u64 a0_15) := (blk_cell BK159.out 15).trans rfl
    have hfz8_0 := blk_frozen BK159.out 0
    have hfz8_1 := blk_frozen BK159.out 1
    have hfz8_2 := blk_frozen BK159.out 2
    have hfz8_3 := blk_frozen BK159.out 3
    have hfz8_4 := blk_frozen BK159.out 4
    have hfz8_5 := blk_frozen BK159.out 5
    have hfz8_6 := blk_frozen BK159.out 6
    have hfz8_7 := blk_frozen BK159.out 7
    have hfz8_8 := blk_frozen BK159.out 8
    have hfz8_9 := blk_frozen BK159.out 9
    have hfz8_10 := blk_frozen BK159.out 10
    have hfz8_11 := blk_frozen BK159.out 11
    have hfz8_12 := blk_frozen BK159.out 12
    have hfz8_13 := blk_frozen BK159.out 13
    have hfz8_14 := blk_frozen BK159.out 14
    have hfz8_15 := blk_frozen BK159.out 15
    go_wp2
    go_loopg [19] kj1 (fun kq v19 w' => ∃ (x19_2 : Int), v19 = .int .i64 x19_2 ∧ Aside0 (head_relro.l0 kq l0_1 (l0_1.length : Int) x19_2 a0_0 l0_1 a0_2 a0_3 a0_4 a0_5 a0_6 a0_7 a0_8 a0_9 a0_10 a0_11 a0_12 a0_13 a0_14 a0_15 = some r) ∧ Aside0 (kq ≤ kj1) ∧ Aside0 (w'.heap[gb159]? = some (.cells #[.int .u16 a0_0, (.slice A0_1 l0_1.length c0_1), .int .u32 a0_2, .int .u32 a0_3, .int .u64 a0_4, .int .u64 a0_5, .int .u64 a0_6, .int .u64 a0_7, .int .u64 a0_8, .int .u32 a0_9, .int .u32 a0_10, .int .u64 a0_11, .int .u64 a0_12, .int .u64 a0_13, .int .u64 a0_14, .int .u64 a0_15] 37 (0, 0))) ∧ Aside0 (Below w.heap.size w w'))
    case atStart => exact ⟨(0), (by first | rfl | (simp; done) | (simp [*]; done)), H', ⟨Nat.le_refl _⟩, ⟨by (with_reducible repeat (first | refine blk_drewN ?_ _ | refine blk_drew ?_ | refine blk_alloc ?_ _)); exact BK159.out⟩, ⟨by repeat (first | (with_reducible first | exact HB.out | apply below_alloc | apply pw_below_drewN | apply below_drew1 | refine below_set ?_ GE159.out) | exact HB.out)⟩⟩
    case round =>
     clear H'
     try clear p2
     try clear c4
     try clear c4b0
     try clear c4b1
     try clear c7
     try clear hcz5_0
     try clear hcz5_1
     try clear hcz5_10
     try clear hcz5_11
     try clear hcz5_12
     try clear hcz5_13
     try clear hcz5_14
     try clear hcz5_15
     try clear hcz5_2
     try clear hcz5_3
     try clear hcz5_4
     try clear hcz5_5
     try clear hcz5_6
     try clear hcz5_7
     try clear hcz5_8
     try clear hcz5_9
     try clear hcz6_0
     try clear hcz6_1
     try clear hcz6_10
     try clear hcz6_11
     try clear hcz6_12
     try clear hcz6_13
     try clear hcz6_14
     try clear hcz6_15
     try clear hcz6_2
     try clear hcz6_3
     try clear hcz6_4
     try clear hcz6_5
     try clear hcz6_6
     try clear hcz6_7
     try clear hcz6_8
     try clear hcz6_9
     try clear hcz8_0
     try clear hcz8_1
     try clear hcz8_10
     try clear hcz8_11
     try clear hcz8_12
     try clear hcz8_13
     try clear hcz8_14
     try clear hcz8_15
     try clear hcz8_2
     try clear hcz8_3
     try clear hcz8_4
     try clear hcz8_5
     try clear hcz8_6
     try clear hcz8_7
     try clear hcz8_8
     try clear hcz8_9
     try clear hfz5_0
     try clear hfz5_1
     try clear hfz5_10
     try clear hfz5_11
     try clear hfz5_12
     try clear hfz5_13
     try clear hfz5_14
     try clear hfz5_15
     try clear hfz5_2
     try clear hfz5_3
     try clear hfz5_4
     try clear hfz5_5
     try clear hfz5_6
     try clear hfz5_7
     try clear hfz5_8
     try clear hfz5_9
     try clear hfz6_0
     try clear hfz6_1
     try clear hfz6_10
     try clear hfz6_11
     try clear hfz6_12
     try clear hfz6_13
     try clear hfz6_14
     try clear hfz6_15
     try clear hfz6_2
     try clear hfz6_3
     try clear hfz6_4
     try clear hfz6_5
     try clear hfz6_6
     try clear hfz6_7
     try clear hfz6_8
     try clear hfz6_9
     try clear hfz8_0
     try clear hfz8_1
     try clear hfz8_10
     try clear hfz8_11
     try clear hfz8_12
     try clear hfz8_13
     try clear hfz8_14
     try clear hfz8_15
     try clear hfz8_2
     try clear hfz8_3
     try clear hfz8_4
     try clear hfz8_5
     try clear hfz8_6
     try clear hfz8_7
     try clear hfz8_8
     try clear hfz8_9
     try clear p2
     obtain ⟨x19_2, rfl, HA, HK2, BK159, HB⟩ := hrel
     cases gk with
     | zero => exact absurd HA.out (by simp [head_relro.l0])
     | succ k2 =>
      have H := HA.out
      clear HA
      simp only [head_relro.l0] at H
      by_cases c9 : x19_2 < (l0_1.length : Int)
      ·
       rw [if_pos c9] at H
       have c9b0 : decide (x19_2 < (l0_1.length : Int)) = true := decide_eq_true c9
       clear c9
       by_cases c10 : 0 ≤ x19_2
       ·
        rw [if_pos c10] at H
        have c10b0 : decide (0 ≤ x19_2) = true := decide_eq_true c10
        clear c10
        by_cases c11 : x19_2 < (l0_1.length : Int)
        ·
         rw [if_pos c11] at H
         have c11b0 : decide (x19_2 < (l0_1.length : Int)) = true := decide_eq_true c11
         clear c11
         replace H := Option.bind_eq_some_iff.mp H
         obtain ⟨t162, A120, H⟩ := H
         replace H : ((num_Inside.f a0_12 a0_14 ((rd_T32 l0_1 x19_2).f3) (IntKind.u64.wrap (t162 - ((rd_T32 l0_1 x19_2).f3)))).bind fun t163 => (if t163 = true then (some ((Go.bits .and .u32 ((rd_T32 l0_1 x19_2).f1) 2) != 0)) else (head_relro.l0 k2 l0_1 (l0_1.length : Int) (wrap64 (x19_2 + 1)) a0_0 l0_1 a0_2 a0_3 a0_4 a0_5 a0_6 a0_7 a0_8 a0_9 a0_10 a0_11 a0_12 a0_13 a0_14 a0_15))) = some r := H
         have A12 := Aside0.mk A120
         clear A120
         replace H := Option.bind_eq_some_iff.mp H
         obtain ⟨t163, A130, H⟩ := H
         replace H : (if t163 = true then (some ((Go.bits .and .u32 ((rd_T32 l0_1 x19_2).f1) 2) != 0)) else (head_relro.l0 k2 l0_1 (l0_1.length : Int) (wrap64 (x19_2 + 1)) a0_0 l0_1 a0_2 a0_3 a0_4 a0_5 a0_6 a0_7 a0_8 a0_9 a0_10 a0_11 a0_12 a0_13 a0_14 a0_15)) = some r := H
         have A13 := Aside0.mk A130
         clear A130
         by_cases c14 : t163 = true
         ·
          subst c14
          have H1 : (some ((Go.bits .and .u32 ((rd_T32 l0_1 x19_2).f1) 2) != 0)) = some r := by rw [if_pos rfl] at H; exact H
          clear H
          have H := H1
          clear H1
          obtain rfl := Option.some.inj H
          have p160 : 0 ≤ (x19_2 : Int) := of_decide_eq_true (by first | (with_reducible assumption) | assumption)
          have q160 : x19_2 < (l0_1.length : Int) := of_decide_eq_true (by first | (with_reducible assumption) | assumption)
          obtain ⟨ad160, e160, hx160_0, hx160_1, hx160_2, hx160_3, hx160_4, hx160_5, hx160_6⟩ := at_T32 HR0_1.out x19_2 p160 q160
          cases e160
          replace hx160_0 := (HB.out.cell (World.block_lt_of_cell? w _ hx160_0)).trans hx160_0
          replace hx160_1 := (HB.out.cell (World.block_lt_of_cell? w _ hx160_1)).trans hx160_1
          replace hx160_2 := (HB.out.cell (World.block_lt_of_cell? w _ hx160_2)).trans hx160_2
          replace hx160_3 := (HB.out.cell (World.block_lt_of_cell? w _ hx160_3)).trans hx160_3
          replace hx160_4 := (HB.out.cell (World.block_lt_of_cell? w _ hx160_4)).trans hx160_4
          replace hx160_5 := (HB.out.cell (World.block_lt_of_cell? w _ hx160_5)).trans hx160_5
          replace hx160_6 := (HB.out.cell (World.block_lt_of_cell? w _ hx160_6)).trans hx160_6
          replace p160 := eq_true p160
          replace q160 := eq_true q160
          try go_wp2_with (first | ((with_reducible refine gate_dst (N := 4) rfl ?_); refine box_event ?hg (N := 4) ?hd (cs := #[.int .u32 0, .int .u32 0, .int .u64 0, .int .u64 0, .int .u64 0, .int .u64 0, .int .u64 0]) (t := 32) ?hr ?_; (case hd => rfl); (case hg => rfl); (case hr => first | (go_simp; done) | (go_simp; rfl)); intro gb161 hg w15 hbox hb; have n0_ := Aside0.mk (blk_below (g := gb159) (o := .cells #[.int .u16 a0_0, .slice (some ad160) l0_1.length c0_1, .int .u32 a0_2, .int .u32 a0_3, .int .u64 a0_4, .int .u64 a0_5, .int .u64 a0_6, .int .u64 a0_7, .int .u64 a0_8, .int .u32 a0_9, .int .u32 a0_10, .int .u64 a0_11, .int .u64 a0_12, .int .u64 a0_13, .int .u64 a0_14, .int .u64 a0_15] 37 (0, 0)) (by (with_reducible repeat (first | refine blk_drewN ?_ _ | refine blk_drew ?_ | refine blk_alloc ?_ _)); exact BK159.out) hb); have n1_ := Aside0.mk (below_step (by repeat (first | (with_reducible first | exact HB.out | apply below_alloc | apply pw_below_drewN | apply below_drew1 | refine below_set ?_ GE159.out) | exact HB.out)) hb); have n2_ := Aside0.mk (hbox); have n3_ := Aside0.mk ((by rw [hg]; exact (below_size (by repeat (first | (with_reducible first | exact HB.out | apply below_alloc | apply pw_below_drewN | apply below_drew1 | refine below_set ?_ GE159.out) | exact HB.out))) : w.heap.size ≤ gb161)); have n4_ := Aside0.mk ((by rw [hg]; exact (below_size (by repeat (first | (with_reducible first | exact HB.out | apply below_alloc | apply pw_below_drewN | apply below_drew1 | refine below_set ?_ GE159.out) | exact HB.out))) : w.heap.size ≤ gb161)); have n5_ := Aside0.mk ((by rw [hg]; exact Nat.ne_of_lt (blk_lt (g := gb159) (o := .cells #[.int .u16 a0_0, .slice (some ad160) l0_1.length c0_1, .int .u32 a0_2, .int .u32 a0_3, .int .u64 a0_4, .int .u64 a0_5, .int .u64 a0_6, .int .u64 a0_7, .int .u64 a0_8, .int .u32 a0_9, .int .u32 a0_10, .int .u64 a0_11, .int .u64 a0_12, .int .u64 a0_13, .int .u64 a0_14, .int .u64 a0_15] 37 (0, 0)) (by (with_reducible repeat (first | refine blk_drewN ?_ _ | refine blk_drew ?_ | refine blk_alloc ?_ _)); exact BK159.out)) : gb159 ≠ gb161)); have n6_ := Aside0.mk ((by rw [hg]; exact Nat.ne_of_gt (blk_lt (g := gb159) (o := .cells #[.int .u16 a0_0, .slice (some ad160) l0_1.length c0_1, .int .u32 a0_2, .int .u32 a0_3, .int .u64 a0_4, .int .u64 a0_5, .int .u64 a0_6, .int .u64 a0_7, .int .u64 a0_8, .int .u32 a0_9, .int .u32 a0_10, .int .u64 a0_11, .int .u64 a0_12, .int .u64 a0_13, .int .u64 a0_14, .int .u64 a0_15] 37 (0, 0)) (by (with_reducible repeat (first | refine blk_drewN ?_ _ | refine blk_drew ?_ | refine blk_alloc ?_ _)); exact BK159.out)) : gb161 ≠ gb159)); clear BK159; clear HB; have BK159 := n0_; have HB := n1_; have BK161 := n2_; have GW161 := n3_; have GE161 := n4_; have NB159_161 := n5_; have NB161_159 := n6_; clear n0_ n1_ n2_ n3_ n4_ n5_ n6_; clear hb hbox hg; have hnb16 := NB161_159.out; have hnc16 := NB159_161.out; have hcz17_0 : w15.cell? ⟨gb161, 0, none⟩ = some (.int .u32 0) := (blk_cell BK161.out 0).trans rfl; have hcz17_1 : w15.cell? ⟨gb161, 1, none⟩ = some (.int .u32 0) := (blk_cell BK161.out 1).trans rfl; have hcz17_2 : w15.cell? ⟨gb161, 2, none⟩ = some (.int .u64 0) := (blk_cell BK161.out 2).trans rfl; have hcz17_3 : w15.cell? ⟨gb161, 3, none⟩ = some (.int .u64 0) := (blk_cell BK161.out 3).trans rfl; have hcz17_4 : w15.cell? ⟨gb161, 4, none⟩ = some (.int .u64 0) := (blk_cell BK161.out 4).trans rfl; have hcz17_5 : w15.cell? ⟨gb161, 5, none⟩ = some (.int .u64 0) := (blk_cell BK161.out 5).trans rfl; have hcz17_6 : w15.cell? ⟨gb161, 6, none⟩ = some (.int .u64 0) := (blk_cell BK161.out 6).trans rfl; have hfz17_0 := blk_frozen BK161.out 0; have hfz17_1 := blk_frozen BK161.out 1; have hfz17_2 := blk_frozen BK161.out 2; have hfz17_3 := blk_frozen BK161.out 3; have hfz17_4 := blk_frozen BK161.out 4; have hfz17_5 := blk_frozen BK161.out 5; have hfz17_6 := blk_frozen BK161.out 6))
          have n0_ : Aside0 ((((((((w15.setCell ⟨gb161, 0, none⟩ (.int .u32 ((rd_T32 l0_1 x19_2).f0))).setCell ⟨gb161, 1, none⟩ (.int .u32 ((rd_T32 l0_1 x19_2).f1))).setCell ⟨gb161, 2, none⟩ (.int .u64 ((rd_T32 l0_1 x19_2).f2))).setCell ⟨gb161, 3, none⟩ (.int .u64 ((rd_T32 l0_1 x19_2).f3))).setCell ⟨gb161, 4, none⟩ (.int .u64 ((rd_T32 l0_1 x19_2).f4))).setCell ⟨gb161, 5, none⟩ (.int .u64 ((rd_T32 l0_1 x19_2).f5))).setCell ⟨gb161, 6, none⟩ (.int .u64 ((rd_T32 l0_1 x19_2).f6))).heap[gb159]? = some (.cells #[.int .u16 a0_0, .slice (some ad160) l0_1.length c0_1, .int .u32 a0_2, .int .u32 a0_3, .int .u64 a0_4, .int .u64 a0_5, .int .u64 a0_6, .int .u64 a0_7, .int .u64 a0_8, .int .u32 a0_9, .int .u32 a0_10, .int .u64 a0_11, .int .u64 a0_12, .int .u64 a0_13, .int .u64 a0_14, .int .u64 a0_15] 37 (0, 0))) := ⟨by (with_reducible repeat (first | refine blk_drewN ?_ _ | refine blk_drew ?_ | refine blk_alloc ?_ _)); refine blk_far ?_ NB159_161.out _; (with_reducible repeat (first | refine blk_drewN ?_ _ | refine blk_drew ?_ | refine blk_alloc ?_ _)); refine blk_far ?_ NB159_161.out _; (with_reducible repeat (first | refine blk_drewN ?_ _ | refine blk_drew ?_ | refine blk_alloc ?_ _)); refine blk_far ?_ NB159_161.out _; (with_reducible repeat (first | refine blk_drewN ?_ _ | refine blk_drew ?_ | refine blk_alloc ?_ _)); refine blk_far ?_ NB159_161.out _; (with_reducible repeat (first | refine blk_drewN ?_ _ | refine blk_drew ?_ | refine blk_alloc ?_ _)); refine blk_far ?_ NB159_161.out _; (with_reducible repeat (first | refine blk_drewN ?_ _ | refine blk_drew ?_ | refine blk_alloc ?_ _)); refine blk_far ?_ NB159_161.out _; (with_reducible repeat (first | refine blk_drewN ?_ _ | refine blk_drew ?_ | refine blk_alloc ?_ _)); refine blk_far ?_ NB159_161.out _; (with_reducible repeat (first | refine blk_drewN ?_ _ | refine blk_drew ?_ | refine blk_alloc ?_ _)); exact BK159.out⟩
          have n1_ : Aside0 ((((((((w15.setCell ⟨gb161, 0, none⟩ (.int .u32 ((rd_T32 l0_1 x19_2).f0))).setCell ⟨gb161, 1, none⟩ (.int .u32 ((rd_T32 l0_1 x19_2).f1))).setCell ⟨gb161, 2, none⟩ (.int .u64 ((rd_T32 l0_1 x19_2).f2))).setCell ⟨gb161, 3, none⟩ (.int .u64 ((rd_T32 l0_1 x19_2).f3))).setCell ⟨gb161, 4, none⟩ (.int .u64 ((rd_T32 l0_1 x19_2).f4))).setCell ⟨gb161, 5, none⟩ (.int .u64 ((rd_T32 l0_1 x19_2).f5))).setCell ⟨gb161, 6, none⟩ (.int .u64 ((rd_T32 l0_1 x19_2).f6))).heap[gb161]? = some (.cells #[.int .u32 ((rd_T32 l0_1 x19_2).f0), .int .u32 ((rd_T32 l0_1 x19_2).f1), .int .u64 ((rd_T32 l0_1 x19_2).f2), .int .u64 ((rd_T32 l0_1 x19_2).f3), .int .u64 ((rd_T32 l0_1 x19_2).f4), .int .u64 ((rd_T32 l0_1 x19_2).f5), .int .u64 ((rd_T32 l0_1 x19_2).f6)] 32 (0, 0))) := ⟨by (with_reducible repeat (first | refine blk_drewN ?_ _ | refine blk_drew ?_ | refine blk_alloc ?_ _)); refine blk_put (cs := #[.int .u32 ((rd_T32 l0_1 x19_2).f0), .int .u32 ((rd_T32 l0_1 x19_2).f1), .int .u64 ((rd_T32 l0_1 x19_2).f2), .int .u64 ((rd_T32 l0_1 x19_2).f3), .int .u64 ((rd_T32 l0_1 x19_2).f4), .int .u64 ((rd_T32 l0_1 x19_2).f5), .int .u64 0]) ?_ 6 _ rfl; (with_reducible repeat (first | refine blk_drewN ?_ _ | refine blk_drew ?_ | refine blk_alloc ?_ _)); refine blk_put (cs := #[.int .u32 ((rd_T32 l0_1 x19_2).f0), .int .u32 ((rd_T32 l0_1 x19_2).f1), .int .u64 ((rd_T32 l0_1 x19_2).f2), .int .u64 ((rd_T32 l0_1 x19_2).f3), .int .u64 ((rd_T32 l0_1 x19_2).f4), .int .u64 0, .int .u64 0]) ?_ 5 _ rfl; (with_reducible repeat (first | refine blk_drewN ?_ _ | refine blk_drew ?_ | refine blk_alloc ?_ _)); refine blk_put (cs := #[.int .u32 ((rd_T32 l0_1 x19_2).f0), .int .u32 ((rd_T32 l0_1 x19_2).f1), .int .u64 ((rd_T32 l0_1 x19_2).f2), .int .u64 ((rd_T32 l0_1 x19_2).f3), .int .u64 0, .int .u64 0, .int .u64 0]) ?_ 4 _ rfl; (with_reducible repeat (first | refine blk_drewN ?_ _ | refine blk_drew ?_ | refine blk_alloc ?_ _)); refine blk_put (cs := #[.int .u32 ((rd_T32 l0_1 x19_2).f0), .int .u32 ((rd_T32 l0_1 x19_2).f1), .int .u64 ((rd_T32 l0_1 x19_2).f2), .int .u64 0, .int .u64 0, .int .u64 0, .int .u64 0]) ?_ 3 _ rfl; (with_reducible repeat (first | refine blk_drewN ?_ _ | refine blk_drew ?_ | refine blk_alloc ?_ _)); refine blk_put (cs := #[.int .u32 ((rd_T32 l0_1 x19_2).f0), .int .u32 ((rd_T32 l0_1 x19_2).f1), .int .u64 0, .int .u64 0, .int .u64 0, .int .u64 0, .int .u64 0]) ?_ 2 _ rfl; (with_reducible repeat (first | refine blk_drewN ?_ _ | refine blk_drew ?_ | refine blk_alloc ?_ _)); refine blk_put (cs := #[.int .u32 ((rd_T32 l0_1 x19_2).f0), .int .u32 0, .int .u64 0, .int .u64 0, .int .u64 0, .int .u64 0, .int .u64 0]) ?_ 1 _ rfl; (with_reducible repeat (first | refine blk_drewN ?_ _ | refine blk_drew ?_ | refine blk_alloc ?_ _)); refine blk_put (cs := #[.int .u32 0, .int .u32 0, .int .u64 0, .int .u64 0, .int .u64 0, .int .u64 0, .int .u64 0]) ?_ 0 _ rfl; (with_reducible repeat (first | refine blk_drewN ?_ _ | refine blk_drew ?_ | refine blk_alloc ?_ _)); exact BK161.out⟩
          have n2_ : Aside0 (Below w.heap.size w (((((((w15.setCell ⟨gb161, 0, none⟩ (.int .u32 ((rd_T32 l0_1 x19_2).f0))).setCell ⟨gb161, 1, none⟩ (.int .u32 ((rd_T32 l0_1 x19_2).f1))).setCell ⟨gb161, 2, none⟩ (.int .u64 ((rd_T32 l0_1 x19_2).f2))).setCell ⟨gb161, 3, none⟩ (.int .u64 ((rd_T32 l0_1 x19_2).f3))).setCell ⟨gb161, 4, none⟩ (.int .u64 ((rd_T32 l0_1 x19_2).f4))).setCell ⟨gb161, 5, none⟩ (.int .u64 ((rd_T32 l0_1 x19_2).f5))).setCell ⟨gb161, 6, none⟩ (.int .u64 ((rd_T32 l0_1 x19_2).f6)))) := ⟨by repeat (first | (with_reducible first | exact HB.out | apply below_alloc | apply pw_below_drewN | apply below_drew1 | refine below_set ?_ GE159.out | refine below_set ?_ GE161.out) | exact HB.out)⟩
          (try clear BK159)
          (try clear BK161)
          (try clear HB)
          generalize (((((((w15.setCell ⟨gb161, 0, none⟩ (.int .u32 ((rd_T32 l0_1 x19_2).f0))).setCell ⟨gb161, 1, none⟩ (.int .u32 ((rd_T32 l0_1 x19_2).f1))).setCell ⟨gb161, 2, none⟩ (.int .u64 ((rd_T32 l0_1 x19_2).f2))).setCell ⟨gb161, 3, none⟩ (.int .u64 ((rd_T32 l0_1 x19_2).f3))).setCell ⟨gb161, 4, none⟩ (.int .u64 ((rd_T32 l0_1 x19_2).f4))).setCell ⟨gb161, 5, none⟩ (.int .u64 ((rd_T32 l0_1 x19_2).f5))).setCell ⟨gb161, 6, none⟩ (.int .u64 ((rd_T32 l0_1 x19_2).f6))) = w18 at n0_ n1_ n2_ ⊢
          have BK159 := n0_
          have BK161 := n1_
          have HB := n2_
          clear n0_ n1_ n2_
          have n0_ := Aside0.mk (blk_drew BK159.out)
          have n1_ := Aside0.mk (blk_drew BK161.out)
          have n2_ := Aside0.mk (below_drew1 HB.out)
          clear BK159
          clear BK161
          clear HB
          have BK159 := n0_
          have BK161 := n1_
          have HB := n2_
          clear n0_ n1_ n2_
          refine start_ (n := 14) (S := fun w' => w'.cell? ⟨gb159, 0, none⟩ = some (.int .u16 a0_0) ∧ w'.cell? ⟨gb159, 1, none⟩ = some (.slice (some ad160) l0_1.length c0_1) ∧ w'.cell? ⟨gb159, 2, none⟩ = some (.int .u32 a0_2) ∧ w'.cell? ⟨gb159, 3, none⟩ = some (.int .u32 a0_3) ∧ w'.cell? ⟨gb159, 4, none⟩ = some (.int .u64 a0_4) ∧ w'.cell? ⟨gb159, 5, none⟩ = some (.int .u64 a0_5) ∧ w'.cell? ⟨gb159, 6, none⟩ = some (.int .u64 a0_6) ∧ w'.cell? ⟨gb159, 7, none⟩ = some (.int .u64 a0_7) ∧ w'.cell? ⟨gb159, 8, none⟩ = some (.int .u64 a0_8) ∧ w'.cell? ⟨gb159, 9, none⟩ = some (.int .u32 a0_9) ∧ w'.cell? ⟨gb159, 10, none⟩ = some (.int .u32 a0_10) ∧ w'.cell? ⟨gb159, 11, none⟩ = some (.int .u64 a0_11) ∧ w'.cell? ⟨gb159, 12, none⟩ = some (.int .u64 a0_12) ∧ w'.cell? ⟨gb159, 13, none⟩ = some (.int .u64 a0_13) ∧ w'.cell? ⟨gb159, 14, none⟩ = some (.int .u64 a0_14) ∧ w'.cell? ⟨gb159, 15, none⟩ = some (.int .u64 a0_15) ∧ w'.cell? ⟨gb161, 0, none⟩ = some (.int .u32 ((rd_T32 l0_1 x19_2).f0)) ∧ w'.cell? ⟨gb161, 1, none⟩ = some (.int .u32 ((rd_T32 l0_1 x19_2).f1)) ∧ w'.cell? ⟨gb161, 2, none⟩ = some (.int .u64 ((rd_T32 l0_1 x19_2).f2)) ∧ w'.cell? ⟨gb161, 3, none⟩ = some (.int .u64 ((rd_T32 l0_1 x19_2).f3)) ∧ w'.cell? ⟨gb161, 4, none⟩ = some (.int .u64 ((rd_T32 l0_1 x19_2).f4)) ∧ w'.cell? ⟨gb161, 5, none⟩ = some (.int .u64 ((rd_T32 l0_1 x19_2).f5)) ∧ w'.cell? ⟨gb161, 6, none⟩ = some (.int .u64 ((rd_T32 l0_1 x19_2).f6))) (ds := []) #[false, false, false, false, false, false, false, false, false, false, false, false, false, false] (by kernel_rfl) rfl rfl ⟨(blk_cell BK159.out 0).trans rfl, (blk_cell BK159.out 1).trans rfl, (blk_cell BK159.out 2).trans rfl, (blk_cell BK159.out 3).trans rfl, (blk_cell BK159.out 4).trans rfl, (blk_cell BK159.out 5).trans rfl, (blk_cell BK159.out 6).trans rfl, (blk_cell BK159.out 7).trans rfl, (blk_cell BK159.out 8).trans rfl, (blk_cell BK159.out 9).trans rfl, (blk_cell BK159.out 10).trans rfl, (blk_cell BK159.out 11).trans rfl, (blk_cell BK159.out 12).trans rfl, (blk_cell BK159.out 13).trans rfl, (blk_cell BK159.out 14).trans rfl, (blk_cell BK159.out 15).trans rfl, (blk_cell BK161.out 0).trans rfl, (blk_cell BK161.out 1).trans rfl, (blk_cell BK161.out 2).trans rfl, (blk_cell BK161.out 3).trans rfl, (blk_cell BK161.out 4).trans rfl, (blk_cell BK161.out 5).trans rfl, (blk_cell BK161.out 6).trans rfl⟩ (fun hHeld => ?_); refine with_tabW head_relro.tab6 head_relro.bits6 (fun HT_ HW_ => ?_)
          generalize w18.drew = w19 at BK159 BK161 HB hHeld ⊢
          refine pure_ (i := 0) (N := some 23) (v := ?_) (a' := ?_) #[true, false, false, false, false, false, false, false, false, false, false, false, false, false] rfl rfl (any_of HT_.out (by kernel_rfl)) (fun _ _ _ h => h) (Or.inl ⟨by rfl, ?_⟩) ?_ ?_
          rotate_left
          ·
           intro w'
           go_simp
           with_reducible rfl
          rotate_left
          ·
           simp only [Act.put, List.setIfInBounds_toArray, List.set_cons_zero, List.set_cons_succ, i64_w, i32_w]
           rfl
          refine pure_ (i := 1) (N := some 24) (v := ?_) (a' := ?_) #[true, true, false, false, false, false, false, false, false, false, false, false, false, false] rfl rfl (any_of HT_.out (by kernel_rfl)) (fun _ _ _ h => h) (Or.inl ⟨by rfl, ?_⟩) ?_ ?_
          rotate_left
          ·
           intro w'
           go_simp
           with_reducible rfl
          rotate_left
          ·
           simp only [Act.put, List.setIfInBounds_toArray, List.set_cons_zero, List.set_cons_succ, i64_w, i32_w]
           rfl
          refine pure_ (i := 3) (N := some 26) (v := ?_) (a' := ?_) #[true, true, false, true, false, false, false, false, false, false, false, false, false, false] rfl rfl (any_of HT_.out (by kernel_rfl)) (fun _ _ _ h => h) (Or.inl ⟨by rfl, ?_⟩) ?_ ?_
          rotate_left
          ·
           intro w'
           go_simp
           with_reducible rfl
          rotate_left
          ·
           simp only [Act.put, List.setIfInBounds_toArray, List.set_cons_zero, List.set_cons_succ, i64_w, i32_w]
           rfl
          refine pure_ (i := 4) (N := some 27) (v := ?_) (a' := ?_) #[true, true, false, true, true, false, false, false, false, false, false, false, false, false] rfl rfl (any_of HT_.out (by kernel_rfl)) (fun _ _ _ h => h) (Or.inl ⟨by rfl, ?_⟩) ?_ ?_
          rotate_left
          ·
           intro w'
           go_simp
           with_reducible rfl
          rotate_left
          ·
           simp only [Act.put, List.setIfInBounds_toArray, List.set_cons_zero, List.set_cons_succ, i64_w, i32_w]
           rfl
          refine pure_ (i := 6) (N := some 29) (v := ?_) (a' := ?_) #[true, true, false, true, true, false, true, false, false, false, false, false, false, false] rfl rfl (any_of HT_.out (by kernel_rfl)) (fun _ _ _ h => h) (Or.inl ⟨by rfl, ?_⟩) ?_ ?_
          rotate_left
          ·
           intro w'
           go_simp
           with_reducible rfl
          rotate_left
          ·
           simp only [Act.put, List.setIfInBounds_toArray, List.set_cons_zero, List.set_cons_succ, i64_w, i32_w]
           rfl
          refine pure_ (i := 10) (N := some 33) (v := ?_) (a' := ?_) #[true, true, false, true, true, false, true, false, false, false, true, false, false, false] rfl rfl (any_of HT_.out (by kernel_rfl)) (fun _ _ _ h => h) (Or.inl ⟨by rfl, ?_⟩) ?_ ?_
          rotate_left
          ·
           intro w'
           go_simp
           with_reducible rfl
          rotate_left
          ·
           simp only [Act.put, List.setIfInBounds_toArray, List.set_cons_zero, List.set_cons_succ, i64_w, i32_w]
           rfl
          refine take_ (i := 2) (N := some 25) (v := ?_) (a' := ?_) #[true, true, true, true, true, false, true, false, false, false, true, false, false, false] rfl rfl (take_ofW HT_.out HW_.out (by kernel_rfl)) (fun _ _ _ h => h) (Or.inl ⟨by rfl, ?_⟩) hHeld ?_ ?_
          rotate_left
          ·
           rintro w' ⟨s0, s1, s2, s3, s4, s5, s6, s7, s8, s9, s10, s11, s12, s13, s14, s15, s16, s17, s18, s19, s20, s21, s22⟩
           go_simp
           with_reducible rfl
          rotate_left
          ·
           simp only [Act.put, List.setIfInBounds_toArray, List.set_cons_zero, List.set_cons_succ, i64_w, i32_w]
           rfl
          refine take_ (i := 5) (N := some 28) (v := ?_) (a' := ?_) #[true, true, true, true, true, true, true, false, false, false, true, false, false, false] rfl rfl (take_ofW HT_.out HW_.out (by kernel_rfl)) (fun _ _ _ h => h) (Or.inl ⟨by rfl, ?_⟩) hHeld ?_ ?_
          rotate_left
          ·
           rintro w' ⟨s0, s1, s2, s3, s4, s5, s6, s7, s8, s9, s10, s11, s12, s13, s14, s15, s16, s17, s18, s19, s20, s21, s22⟩
           go_simp
           with_reducible rfl
          rotate_left
          ·
           simp only [Act.put, List.setIfInBounds_toArray, List.set_cons_zero, List.set_cons_succ, i64_w, i32_w]
           rfl
          refine take_ (i := 7) (N := some 30) (v := ?_) (a' := ?_) #[true, true, true, true, true, true, true, true, false, false, true, false, false, false] rfl rfl (take_ofW HT_.out HW_.out (by kernel_rfl)) (fun _ _ _ h => h) (Or.inl ⟨by rfl, ?_⟩) hHeld ?_ ?_
          rotate_left
          ·
           rintro w' ⟨s0, s1, s2, s3, s4, s5, s6, s7, s8, s9, s10, s11, s12, s13, s14, s15, s16, s17, s18, s19, s20, s21, s22⟩
           go_simp
           with_reducible rfl
          rotate_left
          ·
           simp only [Act.put, List.setIfInBounds_toArray, List.set_cons_zero, List.set_cons_succ, i64_w, i32_w]
           rfl
          refine take_ (i := 8) (N := some 31) (v := ?_) (a' := ?_) #[true, true, true, true, true, true, true, true, true, false, true, false, false, false] rfl rfl (take_ofW HT_.out HW_.out (by kernel_rfl)) (fun _ _ _ h => h) (Or.inl ⟨by rfl, ?_⟩) hHeld ?_ ?_
          rotate_left
          ·
           rintro w' ⟨s0, s1, s2, s3, s4, s5, s6, s7, s8, s9, s10, s11, s12, s13, s14, s15, s16, s17, s18, s19, s20, s21, s22⟩
           go_simp
           with_reducible rfl
          rotate_left
          ·
           simp only [Act.put, List.setIfInBounds_toArray, List.set_cons_zero, List.set_cons_succ, i64_w, i32_w]
           rfl
          refine take_ (i := 11) (N := some 34) (v := ?_) (a' := ?_) #[true, true, true, true, true, true, true, true, true, false, true, true, false, false] rfl rfl (take_ofW HT_.out HW_.out (by kernel_rfl)) (fun _ _ _ h => h) (Or.inl ⟨by rfl, ?_⟩) hHeld ?_ ?_
          rotate_left
          ·
           rintro w' ⟨s0, s1, s2, s3, s4, s5, s6, s7, s8, s9, s10, s11, s12, s13, s14, s15, s16, s17, s18, s19, s20, s21, s22⟩
           go_simp
           with_reducible rfl
          rotate_left
          ·
           simp only [Act.put, List.setIfInBounds_toArray, List.set_cons_zero, List.set_cons_succ, i64_w, i32_w]
           rfl
          refine one_ (i := 9) (N := some 32) #[true, true, true, true, true, true, true, true, true, true, true, true, false, false] rfl rfl (one_of HT_.out (by kernel_rfl)) (by decide) (fun K hK => ?_)
          refine goes_ Try.func15 (by kernel_rfl) rfl #[.agg #[.int .u32 ((rd_T32 l0_1 x19_2).f0), .int .u32 ((rd_T32 l0_1 x19_2).f1), .int .u64 ((rd_T32 l0_1 x19_2).f2), .int .u64 ((rd_T32 l0_1 x19_2).f3), .int .u64 ((rd_T32 l0_1 x19_2).f4), .int .u64 ((rd_T32 l0_1 x19_2).f5), .int .u64 ((rd_T32 l0_1 x19_2).f6)]] (by rfl) rfl rfl (by (try simp only [List.map_toArray, List.map_cons, List.map_nil]); first | done | rfl | (simp only [List.length_drop, List.length_take]; rfl)) ?_
          with_reducible refine (head_End.calls ((rd_T32 l0_1 x19_2).f0) ((rd_T32 l0_1 x19_2).f1) ((rd_T32 l0_1 x19_2).f2) ((rd_T32 l0_1 x19_2).f3) ((rd_T32 l0_1 x19_2).f4) ((rd_T32 l0_1 x19_2).f5) ((rd_T32 l0_1 x19_2).f6) t162 _ A12.out).mono ?_
          rintro e w20 ⟨rfl, hb⟩
          refine ⟨_, rfl, ?_⟩
          have n0_ := Aside0.mk (blk_below (g := gb159) (o := .cells #[.int .u16 a0_0, .slice (some ad160) l0_1.length c0_1, .int .u32 a0_2, .int .u32 a0_3, .int .u64 a0_4, .int .u64 a0_5, .int .u64 a0_6, .int .u64 a0_7, .int .u64 a0_8, .int .u32 a0_9, .int .u32 a0_10, .int .u64 a0_11, .int .u64 a0_12, .int .u64 a0_13, .int .u64 a0_14, .int .u64 a0_15] 37 (0, 0)) (by (with_reducible repeat (first | refine blk_drewN ?_ _ | refine blk_drew ?_ | refine blk_alloc ?_ _)); exact BK159.out) hb)
          have n1_ := Aside0.mk (blk_below (g := gb161) (o := .cells #[.int .u32 ((rd_T32 l0_1 x19_2).f0), .int .u32 ((rd_T32 l0_1 x19_2).f1), .int .u64 ((rd_T32 l0_1 x19_2).f2), .int .u64 ((rd_T32 l0_1 x19_2).f3), .int .u64 ((rd_T32 l0_1 x19_2).f4), .int .u64 ((rd_T32 l0_1 x19_2).f5), .int .u64 ((rd_T32 l0_1 x19_2).f6)] 32 (0, 0)) (by (with_reducible repeat (first | refine blk_drewN ?_ _ | refine blk_drew ?_ | refine blk_alloc ?_ _)); exact BK161.out) hb)
          have n2_ := Aside0.mk (below_step (by repeat (first | (with_reducible first | exact HB.out | apply below_alloc | apply pw_below_drewN | apply below_drew1 | refine below_set ?_ GE159.out | refine below_set ?_ GE161.out) | exact HB.out)) hb)
          clear BK159
          clear BK161
          clear HB
          have BK159 := n0_
          have BK161 := n1_
          have HB := n2_
          clear n0_ n1_ n2_
          (try clear hb)
          (try clear hb2)
          (try clear hk)
          (try clear hi)
          refine hK.out _ _ ⟨(blk_cell BK159.out 0).trans rfl, (blk_cell BK159.out 1).trans rfl, (blk_cell BK159.out 2).trans rfl, (blk_cell BK159.out 3).trans rfl, (blk_cell BK159.out 4).trans rfl, (blk_cell BK159.out 5).trans rfl, (blk_cell BK159.out 6).trans rfl, (blk_cell BK159.out 7).trans rfl, (blk_cell BK159.out 8).trans rfl, (blk_cell BK159.out 9).trans rfl, (blk_cell BK159.out 10).trans rfl, (blk_cell BK159.out 11).trans rfl, (blk_cell BK159.out 12).trans rfl, (blk_cell BK159.out 13).trans rfl, (blk_cell BK159.out 14).trans rfl, (blk_cell BK159.out 15).trans rfl, (blk_cell BK161.out 0).trans rfl, (blk_cell BK161.out 1).trans rfl, (blk_cell BK161.out 2).trans rfl, (blk_cell BK161.out 3).trans rfl, (blk_cell BK161.out 4).trans rfl, (blk_cell BK161.out 5).trans rfl, (blk_cell BK161.out 6).trans rfl⟩ (fun hHeld => ?_)
          clear hK K
          refine norm_ (a' := ?_) ?_ ?_
          rotate_left
          ·
           show Act.put _ (some 32) _ = _
           simp only [Act.put, List.setIfInBounds_toArray, List.set_cons_zero, List.set_cons_succ, i64_w, i32_w]
           rfl
          refine pure_ (i := 12) (N := some 35) (v := ?_) (a' := ?_) #[true, true, true, true, true, true, true, true, true, true, true, true, true, false] rfl rfl (any_of HT_.out (by kernel_rfl)) (fun _ _ _ h => h) (Or.inl ⟨by rfl, ?_⟩) ?_ ?_
          rotate_left
          ·
           intro w'
           go_simp
           with_reducible rfl
          rotate_left
          ·
           simp only [Act.put, List.setIfInBounds_toArray, List.set_cons_zero, List.set_cons_succ, i64_w, i32_w]
           rfl
          refine one_ (i := 13) (N := some 36) #[true, true, true, true, true, true, true, true, true, true, true, true, true, true] rfl rfl (one_of HT_.out (by kernel_rfl)) (by decide) (fun K hK => ?_)
          refine goes_ Try.func39 (by kernel_rfl) rfl #[.int .u64 a0_12, .int .u64 a0_14, .int .u64 ((rd_T32 l0_1 x19_2).f3), .int .u64 (IntKind.u64.wrap (t162 - ((rd_T32 l0_1 x19_2).f3)))] (by rfl) rfl rfl (by (try simp only [List.map_toArray, List.map_cons, List.map_nil]); first | done | rfl | (simp only [List.length_drop, List.length_take]; rfl)) ?_
          with_reducible refine (num_Inside.calls a0_12 a0_14 ((rd_T32 l0_1 x19_2).f3) (IntKind.u64.wrap (t162 - ((rd_T32 l0_1 x19_2).f3))) true _ A13.out).mono ?_
          rintro e w' ⟨rfl, ⟨nd, rfl⟩⟩
          refine ⟨_, rfl, ?_⟩
          refine hK.out _ _ ⟨(blk_cell BK159.out 0).trans rfl, (blk_cell BK159.out 1).trans rfl, (blk_cell BK159.out 2).trans rfl, (blk_cell BK159.out 3).trans rfl, (blk_cell BK159.out 4).trans rfl, (blk_cell BK159.out 5).trans rfl, (blk_cell BK159.out 6).trans rfl, (blk_cell BK159.out 7).trans rfl, (blk_cell BK159.out 8).trans rfl, (blk_cell BK159.out 9).trans rfl, (blk_cell BK159.out 10).trans rfl, (blk_cell BK159.out 11).trans rfl, (blk_cell BK159.out 12).trans rfl, (blk_cell BK159.out 13).trans rfl, (blk_cell BK159.out 14).trans rfl, (blk_cell BK159.out 15).trans rfl, (blk_cell BK161.out 0).trans rfl, (blk_cell BK161.out 1).trans rfl, (blk_cell BK161.out 2).trans rfl, (blk_cell BK161.out 3).trans rfl, (blk_cell BK161.out 4).trans rfl, (blk_cell BK161.out 5).trans rfl, (blk_cell BK161.out 6).trans rfl⟩ (fun hHeld => ?_)
          clear hK K
          refine norm_ (a' := ?_) ?_ ?_
          rotate_left
          ·
           show Act.put _ (some 36) _ = _
           simp only [Act.put, List.setIfInBounds_toArray, List.set_cons_zero, List.set_cons_succ, i64_w, i32_w]
           rfl
          refine done_ (done_of HT_.out (by kernel_rfl)) ?_
          have hcz21_0 : w20.cell? ⟨gb161, 0, none⟩ = some (.int .u32 ((rd_T32 l0_1 x19_2).f0)) := (blk_cell BK161.out 0).trans rfl
          have hcz21_1 : w20.cell? ⟨gb161, 1, none⟩ = some (.int .u32 ((rd_T32 l0_1 x19_2).f1)) := (blk_cell BK161.out 1).trans rfl
          have hcz21_2 : w20.cell? ⟨gb161, 2, none⟩ = some (.int .u64 ((rd_T32 l0_1 x19_2).f2)) := (blk_cell BK161.out 2).trans rfl
          have hcz21_3 : w20.cell? ⟨gb161, 3, none⟩ = some (.int .u64 ((rd_T32 l0_1 x19_2).f3)) := (blk_cell BK161.out 3).trans rfl
          have hcz21_4 : w20.cell? ⟨gb161, 4, none⟩ = some (.int .u64 ((rd_T32 l0_1 x19_2).f4)) := (blk_cell BK161.out 4).trans rfl
          have hcz21_5 : w20.cell? ⟨gb161, 5, none⟩ = some (.int .u64 ((rd_T32 l0_1 x19_2).f5)) := (blk_cell BK161.out 5).trans rfl
          have hcz21_6 : w20.cell? ⟨gb161, 6, none⟩ = some (.int .u64 ((rd_T32 l0_1 x19_2).f6)) := (blk_cell BK161.out 6).trans rfl
          have hfz21_0 := blk_frozen BK161.out 0
          have hfz21_1 := blk_frozen BK161.out 1
          have hfz21_2 := blk_frozen BK161.out 2
          have hfz21_3 := blk_frozen BK161.out 3
          have hfz21_4 := blk_frozen BK161.out 4
          have hfz21_5 := blk_frozen BK161.out 5
          have hfz21_6 := blk_frozen BK161.out 6
          try go_wp2
          go_ret
          exact ⟨by first | rfl | (simp [errW_none, errW_some] <;> rfl) | (simp [*, errW_none, errW_some] <;> rfl), by repeat (first | (with_reducible first | exact HB.out | apply below_alloc | apply pw_below_drewN | apply below_drew1 | refine below_set ?_ GE159.out | refine below_set ?_ GE161.out) | exact HB.out)⟩
         ·
          replace c14 := Bool.eq_false_iff.mpr c14
          subst c14
          have H1 : (head_relro.l0 k2 l0_1 (l0_1.length : Int) (wrap64 (x19_2 + 1)) a0_0 l0_1 a0_2 a0_3 a0_4 a0_5 a0_6 a0_7 a0_8 a0_9 a0_10 a0_11 a0_12 a0_13 a0_14 a0_15) = some r := by rw [if_neg (show ¬ (false = true) by decide)] at H; exact H
          clear H
          have H := H1
          clear H1
          have H' := Aside0.mk H
          clear H
          have p160 : 0 ≤ (x19_2 : Int) := of_decide_eq_true (by first | (with_reducible assumption) | assumption)
          have q160 : x19_2 < (l0_1.length : Int) := of_decide_eq_true (by first | (with_reducible assumption) | assumption)
          obtain ⟨ad160, e160, hx160_0, hx160_1, hx160_2, hx160_3, hx160_4, hx160_5, hx160_6⟩ := at_T32 HR0_1.out x19_2 p160 q160
          cases e160
          replace hx160_0 := (HB.out.cell (World.block_lt_of_cell? w _ hx160_0)).trans hx160_0
          replace hx160_1 := (HB.out.cell (World.block_lt_of_cell? w _ hx160_1)).trans hx160_1
          replace hx160_2 := (HB.out.cell (World.block_lt_of_cell? w _ hx160_2)).trans hx160_2
          replace hx160_3 := (HB.out.cell (World.block_lt_of_cell? w _ hx160_3)).trans hx160_3
          replace hx160_4 := (HB.out.cell (World.block_lt_of_cell? w _ hx160_4)).trans hx160_4
          replace hx160_5 := (HB.out.cell (World.block_lt_of_cell? w _ hx160_5)).trans hx160_5
          replace hx160_6 := (HB.out.cell (World.block_lt_of_cell? w _ hx160_6)).trans hx160_6
          replace p160 := eq_true p160
          replace q160 := eq_true q160
          try go_wp2_with (first | ((with_reducible refine gate_dst (N := 4) rfl ?_); refine box_event ?hg (N := 4) ?hd (cs := #[.int .u32 0, .int .u32 0, .int .u64 0, .int .u64 0, .int .u64 0, .int .u64 0, .int .u64 0]) (t := 32) ?hr ?_; (case hd => rfl); (case hg => rfl); (case hr => first | (go_simp; done) | (go_simp; rfl)); intro gb161 hg w22 hbox hb; have n0_ := Aside0.mk (blk_below (g := gb159) (o := .cells #[.int .u16 a0_0, .slice (some ad160) l0_1.length c0_1, .int .u32 a0_2, .int .u32 a0_3, .int .u64 a0_4, .int .u64 a0_5, .int .u64 a0_6, .int .u64 a0_7, .int .u64 a0_8, .int .u32 a0_9, .int .u32 a0_10, .int .u64 a0_11, .int .u64 a0_12, .int .u64 a0_13, .int .u64 a0_14, .int .u64 a0_15] 37 (0, 0)) (by (with_reducible repeat (first | refine blk_drewN ?_ _ | refine blk_drew ?_ | refine blk_alloc ?_ _)); exact BK159.out) hb); have n1_ := Aside0.mk (below_step (by repeat (first | (with_reducible first | exact HB.out | apply below_alloc | apply pw_below_drewN | apply below_drew1 | refine below_set ?_ GE159.out) | exact HB.out)) hb); have n2_ := Aside0.mk (hbox); have n3_ := Aside0.mk ((by rw [hg]; exact (below_size (by repeat (first | (with_reducible first | exact HB.out | apply below_alloc | apply pw_below_drewN | apply below_drew1 | refine below_set ?_ GE159.out) | exact HB.out))) : w.heap.size ≤ gb161)); have n4_ := Aside0.mk ((by rw [hg]; exact (below_size (by repeat (first | (with_reducible first | exact HB.out | apply below_alloc | apply pw_below_drewN | apply below_drew1 | refine below_set ?_ GE159.out) | exact HB.out))) : w.heap.size ≤ gb161)); have n5_ := Aside0.mk ((by rw [hg]; exact Nat.ne_of_lt (blk_lt (g := gb159) (o := .cells #[.int .u16 a0_0, .slice (some ad160) l0_1.length c0_1, .int .u32 a0_2, .int .u32 a0_3, .int .u64 a0_4, .int .u64 a0_5, .int .u64 a0_6, .int .u64 a0_7, .int .u64 a0_8, .int .u32 a0_9, .int .u32 a0_10, .int .u64 a0_11, .int .u64 a0_12, .int .u64 a0_13, .int .u64 a0_14, .int .u64 a0_15] 37 (0, 0)) (by (with_reducible repeat (first | refine blk_drewN ?_ _ | refine blk_drew ?_ | refine blk_alloc ?_ _)); exact BK159.out)) : gb159 ≠ gb161)); have n6_ := Aside0.mk ((by rw [hg]; exact Nat.ne_of_gt (blk_lt (g := gb159) (o := .cells #[.int .u16 a0_0, .slice (some ad160) l0_1.length c0_1, .int .u32 a0_2, .int .u32 a0_3, .int .u64 a0_4, .int .u64 a0_5, .int .u64 a0_6, .int .u64 a0_7, .int .u64 a0_8, .int .u32 a0_9, .int .u32 a0_10, .int .u64 a0_11, .int .u64 a0_12, .int .u64 a0_13, .int .u64 a0_14, .int .u64 a0_15] 37 (0, 0)) (by (with_reducible repeat (first | refine blk_drewN ?_ _ | refine blk_drew ?_ | refine blk_alloc ?_ _)); exact BK159.out)) : gb161 ≠ gb159)); clear BK159; clear HB; have BK159 := n0_; have HB := n1_; have BK161 := n2_; have GW161 := n3_; have GE161 := n4_; have NB159_161 := n5_; have NB161_159 := n6_; clear n0_ n1_ n2_ n3_ n4_ n5_ n6_; clear hb hbox hg; have hnb23 := NB161_159.out; have hnc23 := NB159_161.out; have hcz24_0 : w22.cell? ⟨gb161, 0, none⟩ = some (.int .u32 0) := (blk_cell BK161.out 0).trans rfl; have hcz24_1 : w22.cell? ⟨gb161, 1, none⟩ = some (.int .u32 0) := (blk_cell BK161.out 1).trans rfl; have hcz24_2 : w22.cell? ⟨gb161, 2, none⟩ = some (.int .u64 0) := (blk_cell BK161.out 2).trans rfl; have hcz24_3 : w22.cell? ⟨gb161, 3, none⟩ = some (.int .u64 0) := (blk_cell BK161.out 3).trans rfl; have hcz24_4 : w22.cell? ⟨gb161, 4, none⟩ = some (.int .u64 0) := (blk_cell BK161.out 4).trans rfl; have hcz24_5 : w22.cell? ⟨gb161, 5, none⟩ = some (.int .u64 0) := (blk_cell BK161.out 5).trans rfl; have hcz24_6 : w22.cell? ⟨gb161, 6, none⟩ = some (.int .u64 0) := (blk_cell BK161.out 6).trans rfl; have hfz24_0 := blk_frozen BK161.out 0; have hfz24_1 := blk_frozen BK161.out 1; have hfz24_2 := blk_frozen BK161.out 2; have hfz24_3 := blk_frozen BK161.out 3; have hfz24_4 := blk_frozen BK161.out 4; have hfz24_5 := blk_frozen BK161.out 5; have hfz24_6 := blk_frozen BK161.out 6))
          have n0_ : Aside0 ((((((((w22.setCell ⟨gb161, 0, none⟩ (.int .u32 ((rd_T32 l0_1 x19_2).f0))).setCell ⟨gb161, 1, none⟩ (.int .u32 ((rd_T32 l0_1 x19_2).f1))).setCell ⟨gb161, 2, none⟩ (.int .u64 ((rd_T32 l0_1 x19_2).f2))).setCell ⟨gb161, 3, none⟩ (.int .u64 ((rd_T32 l0_1 x19_2).f3))).setCell ⟨gb161, 4, none⟩ (.int .u64 ((rd_T32 l0_1 x19_2).f4))).setCell ⟨gb161, 5, none⟩ (.int .u64 ((rd_T32 l0_1 x19_2).f5))).setCell ⟨gb161, 6, none⟩ (.int .u64 ((rd_T32 l0_1 x19_2).f6))).heap[gb159]? = some (.cells #[.int .u16 a0_0, .slice (some ad160) l0_1.length c0_1, .int .u32 a0_2, .int .u32 a0_3, .int .u64 a0_4, .int .u64 a0_5, .int .u64 a0_6, .int .u64 a0_7, .int .u64 a0_8, .int .u32 a0_9, .int .u32 a0_10, .int .u64 a0_11, .int .u64 a0_12, .int .u64 a0_13, .int .u64 a0_14, .int .u64 a0_15] 37 (0, 0))) := ⟨by (with_reducible repeat (first | refine blk_drewN ?_ _ | refine blk_drew ?_ | refine blk_alloc ?_ _)); refine blk_far ?_ NB159_161.out _; (with_reducible repeat (first | refine blk_drewN ?_ _ | refine blk_drew ?_ | refine blk_alloc ?_ _)); refine blk_far ?_ NB159_161.out _; (with_reducible repeat (first | refine blk_drewN ?_ _ | refine blk_drew ?_ | refine blk_alloc ?_ _)); refine blk_far ?_ NB159_161.out _; (with_reducible repeat (first | refine blk_drewN ?_ _ | refine blk_drew ?_ | refine blk_alloc ?_ _)); refine blk_far ?_ NB159_161.out _; (with_reducible repeat (first | refine blk_drewN ?_ _ | refine blk_drew ?_ | refine blk_alloc ?_ _)); refine blk_far ?_ NB159_161.out _; (with_reducible repeat (first | refine blk_drewN ?_ _ | refine blk_drew ?_ | refine blk_alloc ?_ _)); refine blk_far ?_ NB159_161.out _; (with_reducible repeat (first | refine blk_drewN ?_ _ | refine blk_drew ?_ | refine blk_alloc ?_ _)); refine blk_far ?_ NB159_161.out _; (with_reducible repeat (first | refine blk_drewN ?_ _ | refine blk_drew ?_ | refine blk_alloc ?_ _)); exact BK159.out⟩
          have n1_ : Aside0 ((((((((w22.setCell ⟨gb161, 0, none⟩ (.int .u32 ((rd_T32 l0_1 x19_2).f0))).setCell ⟨gb161, 1, none⟩ (.int .u32 ((rd_T32 l0_1 x19_2).f1))).setCell ⟨gb161, 2, none⟩ (.int .u64 ((rd_T32 l0_1 x19_2).f2))).setCell ⟨gb161, 3, none⟩ (.int .u64 ((rd_T32 l0_1 x19_2).f3))).setCell ⟨gb161, 4, none⟩ (.int .u64 ((rd_T32 l0_1 x19_2).f4))).setCell ⟨gb161, 5, none⟩ (.int .u64 ((rd_T32 l0_1 x19_2).f5))).setCell ⟨gb161, 6, none⟩ (.int .u64 ((rd_T32 l0_1 x19_2).f6))).heap[gb161]? = some (.cells #[.int .u32 ((rd_T32 l0_1 x19_2).f0), .int .u32 ((rd_T32 l0_1 x19_2).f1), .int .u64 ((rd_T32 l0_1 x19_2).f2), .int .u64 ((rd_T32 l0_1 x19_2).f3), .int .u64 ((rd_T32 l0_1 x19_2).f4), .int .u64 ((rd_T32 l0_1 x19_2).f5), .int .u64 ((rd_T32 l0_1 x19_2).f6)] 32 (0, 0))) := ⟨by (with_reducible repeat (first | refine blk_drewN ?_ _ | refine blk_drew ?_ | refine blk_alloc ?_ _)); refine blk_put (cs := #[.int .u32 ((rd_T32 l0_1 x19_2).f0), .int .u32 ((rd_T32 l0_1 x19_2).f1), .int .u64 ((rd_T32 l0_1 x19_2).f2), .int .u64 ((rd_T32 l0_1 x19_2).f3), .int .u64 ((rd_T32 l0_1 x19_2).f4), .int .u64 ((rd_T32 l0_1 x19_2).f5), .int .u64 0]) ?_ 6 _ rfl; (with_reducible repeat (first | refine blk_drewN ?_ _ | refine blk_drew ?_ | refine blk_alloc ?_ _)); refine blk_put (cs := #[.int .u32 ((rd_T32 l0_1 x19_2).f0), .int .u32 ((rd_T32 l0_1 x19_2).f1), .int .u64 ((rd_T32 l0_1 x19_2).f2), .int .u64 ((rd_T32 l0_1 x19_2).f3), .int .u64 ((rd_T32 l0_1 x19_2).f4), .int .u64 0, .int .u64 0]) ?_ 5 _ rfl; (with_reducible repeat (first | refine blk_drewN ?_ _ | refine blk_drew ?_ | refine blk_alloc ?_ _)); refine blk_put (cs := #[.int .u32 ((rd_T32 l0_1 x19_2).f0), .int .u32 ((rd_T32 l0_1 x19_2).f1), .int .u64 ((rd_T32 l0_1 x19_2).f2), .int .u64 ((rd_T32 l0_1 x19_2).f3), .int .u64 0, .int .u64 0, .int .u64 0]) ?_ 4 _ rfl; (with_reducible repeat (first | refine blk_drewN ?_ _ | refine blk_drew ?_ | refine blk_alloc ?_ _)); refine blk_put (cs := #[.int .u32 ((rd_T32 l0_1 x19_2).f0), .int .u32 ((rd_T32 l0_1 x19_2).f1), .int .u64 ((rd_T32 l0_1 x19_2).f2), .int .u64 0, .int .u64 0, .int .u64 0, .int .u64 0]) ?_ 3 _ rfl; (with_reducible repeat (first | refine blk_drewN ?_ _ | refine blk_drew ?_ | refine blk_alloc ?_ _)); refine blk_put (cs := #[.int .u32 ((rd_T32 l0_1 x19_2).f0), .int .u32 ((rd_T32 l0_1 x19_2).f1), .int .u64 0, .int .u64 0, .int .u64 0, .int .u64 0, .int .u64 0]) ?_ 2 _ rfl; (with_reducible repeat (first | refine blk_drewN ?_ _ | refine blk_drew ?_ | refine blk_alloc ?_ _)); refine blk_put (cs := #[.int .u32 ((rd_T32 l0_1 x19_2).f0), .int .u32 0, .int .u64 0, .int .u64 0, .int .u64 0, .int .u64 0, .int .u64 0]) ?_ 1 _ rfl; (with_reducible repeat (first | refine blk_drewN ?_ _ | refine blk_drew ?_ | refine blk_alloc ?_ _)); refine blk_put (cs := #[.int .u32 0, .int .u32 0, .int .u64 0, .int .u64 0, .int .u64 0, .int .u64 0, .int .u64 0]) ?_ 0 _ rfl; (with_reducible repeat (first | refine blk_drewN ?_ _ | refine blk_drew ?_ | refine blk_alloc ?_ _)); exact BK161.out⟩
          have n2_ : Aside0 (Below w.heap.size w (((((((w22.setCell ⟨gb161, 0, none⟩ (.int .u32 ((rd_T32 l0_1 x19_2).f0))).setCell ⟨gb161, 1, none⟩ (.int .u32 ((rd_T32 l0_1 x19_2).f1))).setCell ⟨gb161, 2, none⟩ (.int .u64 ((rd_T32 l0_1 x19_2).f2))).setCell ⟨gb161, 3, none⟩ (.int .u64 ((rd_T32 l0_1 x19_2).f3))).setCell ⟨gb161, 4, none⟩ (.int .u64 ((rd_T32 l0_1 x19_2).f4))).setCell ⟨gb161, 5, none⟩ (.int .u64 ((rd_T32 l0_1 x19_2).f5))).setCell ⟨gb161, 6, none⟩ (.int .u64 ((rd_T32 l0_1 x19_2).f6)))) := ⟨by repeat (first | (with_reducible first | exact HB.out | apply below_alloc | apply pw_below_drewN | apply below_drew1 | refine below_set ?_ GE159.out | refine below_set ?_ GE161.out) | exact HB.out)⟩
          (try clear BK159)
          (try clear BK161)
          (try clear HB)
          generalize (((((((w22.setCell ⟨gb161, 0, none⟩ (.int .u32 ((rd_T32 l0_1 x19_2).f0))).setCell ⟨gb161, 1, none⟩ (.int .u32 ((rd_T32 l0_1 x19_2).f1))).setCell ⟨gb161, 2, none⟩ (.int .u64 ((rd_T32 l0_1 x19_2).f2))).setCell ⟨gb161, 3, none⟩ (.int .u64 ((rd_T32 l0_1 x19_2).f3))).setCell ⟨gb161, 4, none⟩ (.int .u64 ((rd_T32 l0_1 x19_2).f4))).setCell ⟨gb161, 5, none⟩ (.int .u64 ((rd_T32 l0_1 x19_2).f5))).setCell ⟨gb161, 6, none⟩ (.int .u64 ((rd_T32 l0_1 x19_2).f6))) = w25 at n0_ n1_ n2_ ⊢
          have BK159 := n0_
          have BK161 := n1_
          have HB := n2_
          clear n0_ n1_ n2_
          have n0_ := Aside0.mk (blk_drew BK159.out)
          have n1_ := Aside0.mk (blk_drew BK161.out)
          have n2_ := Aside0.mk (below_drew1 HB.out)
          clear BK159
          clear BK161
          clear HB
          have BK159 := n0_
          have BK161 := n1_
          have HB := n2_
          clear n0_ n1_ n2_
          refine start_ (n := 14) (S := fun w' => w'.cell? ⟨gb159, 0, none⟩ = some (.int .u16 a0_0) ∧ w'.cell? ⟨gb159, 1, none⟩ = some (.slice (some ad160) l0_1.length c0_1) ∧ w'.cell? ⟨gb159, 2, none⟩ = some (.int .u32 a0_2) ∧ w'.cell? ⟨gb159, 3, none⟩ = some (.int .u32 a0_3) ∧ w'.cell? ⟨gb159, 4, none⟩ = some (.int .u64 a0_4) ∧ w'.cell? ⟨gb159, 5, none⟩ = some (.int .u64 a0_5) ∧ w'.cell? ⟨gb159, 6, none⟩ = some (.int .u64 a0_6) ∧ w'.cell? ⟨gb159, 7, none⟩ = some (.int .u64 a0_7) ∧ w'.cell? ⟨gb159, 8, none⟩ = some (.int .u64 a0_8) ∧ w'.cell? ⟨gb159, 9, none⟩ = some (.int .u32 a0_9) ∧ w'.cell? ⟨gb159, 10, none⟩ = some (.int .u32 a0_10) ∧ w'.cell? ⟨gb159, 11, none⟩ = some (.int .u64 a0_11) ∧ w'.cell? ⟨gb159, 12, none⟩ = some (.int .u64 a0_12) ∧ w'.cell? ⟨gb159, 13, none⟩ = some (.int .u64 a0_13) ∧ w'.cell? ⟨gb159, 14, none⟩ = some (.int .u64 a0_14) ∧ w'.cell? ⟨gb159, 15, none⟩ = some (.int .u64 a0_15) ∧ w'.cell? ⟨gb161, 0, none⟩ = some (.int .u32 ((rd_T32 l0_1 x19_2).f0)) ∧ w'.cell? ⟨gb161, 1, none⟩ = some (.int .u32 ((rd_T32 l0_1 x19_2).f1)) ∧ w'.cell? ⟨gb161, 2, none⟩ = some (.int .u64 ((rd_T32 l0_1 x19_2).f2)) ∧ w'.cell? ⟨gb161, 3, none⟩ = some (.int .u64 ((rd_T32 l0_1 x19_2).f3)) ∧ w'.cell? ⟨gb161, 4, none⟩ = some (.int .u64 ((rd_T32 l0_1 x19_2).f4)) ∧ w'.cell? ⟨gb161, 5, none⟩ = some (.int .u64 ((rd_T32 l0_1 x19_2).f5)) ∧ w'.cell? ⟨gb161, 6, none⟩ = some (.int .u64 ((rd_T32 l0_1 x19_2).f6))) (ds := []) #[false, false, false, false, false, false, false, false, false, false, false, false, false, false] (by kernel_rfl) rfl rfl ⟨(blk_cell BK159.out 0).trans rfl, (blk_cell BK159.out 1).trans rfl, (blk_cell BK159.out 2).trans rfl, (blk_cell BK159.out 3).trans rfl, (blk_cell BK159.out 4).trans rfl, (blk_cell BK159.out 5).trans rfl, (blk_cell BK159.out 6).trans rfl, (blk_cell BK159.out 7).trans rfl, (blk_cell BK159.out 8).trans rfl, (blk_cell BK159.out 9).trans rfl, (blk_cell BK159.out 10).trans rfl, (blk_cell BK159.out 11).trans rfl, (blk_cell BK159.out 12).trans rfl, (blk_cell BK159.out 13).trans rfl, (blk_cell BK159.out 14).trans rfl, (blk_cell BK159.out 15).trans rfl, (blk_cell BK161.out 0).trans rfl, (blk_cell BK161.out 1).trans rfl, (blk_cell BK161.out 2).trans rfl, (blk_cell BK161.out 3).trans rfl, (blk_cell BK161.out 4).trans rfl, (blk_cell BK161.out 5).trans rfl, (blk_cell BK161.out 6).trans rfl⟩ (fun hHeld => ?_); refine with_tabW head_relro.tab6 head_relro.bits6 (fun HT_ HW_ => ?_)
          generalize w25.drew = w26 at BK159 BK161 HB hHeld ⊢
          refine pure_ (i := 0) (N := some 23) (v := ?_) (a' := ?_) #[true, false, false, false, false, false, false, false, false, false, false, false, false, false] rfl rfl (any_of HT_.out (by kernel_rfl)) (fun _ _ _ h => h) (Or.inl ⟨by rfl, ?_⟩) ?_ ?_
          rotate_left
          ·
           intro w'
           go_simp
           with_reducible rfl
          rotate_left
          ·
           simp only [Act.put, List.setIfInBounds_toArray, List.set_cons_zero, List.set_cons_succ, i64_w, i32_w]
           rfl
          refine pure_ (i := 1) (N := some 24) (v := ?_) (a' := ?_) #[true, true, false, false, false, false, false, false, false, false, false, false, false, false] rfl rfl (any_of HT_.out (by kernel_rfl)) (fun _ _ _ h => h) (Or.inl ⟨by rfl, ?_⟩) ?_ ?_
          rotate_left
          ·
           intro w'
           go_simp
           with_reducible rfl
          rotate_left
          ·
           simp only [Act.put, List.setIfInBounds_toArray, List.set_cons_zero, List.set_cons_succ, i64_w, i32_w]
           rfl
          refine pure_ (i := 3) (N := some 26) (v := ?_) (a' := ?_) #[true, true, false, true, false, false, false, false, false, false, false, false, false, false] rfl rfl (any_of HT_.out (by kernel_rfl)) (fun _ _ _ h => h) (Or.inl ⟨by rfl, ?_⟩) ?_ ?_
          rotate_left
          ·
           intro w'
           go_simp
           with_reducible rfl
          rotate_left
          ·
           simp only [Act.put, List.setIfInBounds_toArray, List.set_cons_zero, List.set_cons_succ, i64_w, i32_w]
           rfl
          refine pure_ (i := 4) (N := some 27) (v := ?_) (a' := ?_) #[true, true, false, true, true, false, false, false, false, false, false, false, false, false] rfl rfl (any_of HT_.out (by kernel_rfl)) (fun _ _ _ h => h) (Or.inl ⟨by rfl, ?_⟩) ?_ ?_
          rotate_left
          ·
           intro w'
           go_simp
           with_reducible rfl
          rotate_left
          ·
           simp only [Act.put, List.setIfInBounds_toArray, List.set_cons_zero, List.set_cons_succ, i64_w, i32_w]
           rfl
          refine pure_ (i := 6) (N := some 29) (v := ?_) (a' := ?_) #[true, true, false, true, true, false, true, false, false, false, false, false, false, false] rfl rfl (any_of HT_.out (by kernel_rfl)) (fun _ _ _ h => h) (Or.inl ⟨by rfl, ?_⟩) ?_ ?_
          rotate_left
          ·
           intro w'
           go_simp
           with_reducible rfl
          rotate_left
          ·
           simp only [Act.put, List.setIfInBounds_toArray, List.set_cons_zero, List.set_cons_succ, i64_w, i32_w]
           rfl
          refine pure_ (i := 10) (N := some 33) (v := ?_) (a' := ?_) #[true, true, false, true, true, false, true, false, false, false, true, false, false, false] rfl rfl (any_of HT_.out (by kernel_rfl)) (fun _ _ _ h => h) (Or.inl ⟨by rfl, ?_⟩) ?_ ?_
          rotate_left
          ·
           intro w'
           go_simp
           with_reducible rfl
          rotate_left
          ·
           simp only [Act.put, List.setIfInBounds_toArray, List.set_cons_zero, List.set_cons_succ, i64_w, i32_w]
           rfl
          refine take_ (i := 2) (N := some 25) (v := ?_) (a' := ?_) #[true, true, true, true, true, false, true, false, false, false, true, false, false, false] rfl rfl (take_ofW HT_.out HW_.out (by kernel_rfl)) (fun _ _ _ h => h) (Or.inl ⟨by rfl, ?_⟩) hHeld ?_ ?_
          rotate_left
          ·
           rintro w' ⟨s0, s1, s2, s3, s4, s5, s6, s7, s8, s9, s10, s11, s12, s13, s14, s15, s16, s17, s18, s19, s20, s21, s22⟩
           go_simp
           with_reducible rfl
          rotate_left
          ·
           simp only [Act.put, List.setIfInBounds_toArray, List.set_cons_zero, List.set_cons_succ, i64_w, i32_w]
           rfl
          refine take_ (i := 5) (N := some 28) (v := ?_) (a' := ?_) #[true, true, true, true, true, true, true, false, false, false, true, false, false, false] rfl rfl (take_ofW HT_.out HW_.out (by kernel_rfl)) (fun _ _ _ h => h) (Or.inl ⟨by rfl, ?_⟩) hHeld ?_ ?_
          rotate_left
          ·
           rintro w' ⟨s0, s1, s2, s3, s4, s5, s6, s7, s8, s9, s10, s11, s12, s13, s14, s15, s16, s17, s18, s19, s20, s21, s22⟩
           go_simp
           with_reducible rfl
          rotate_left
          ·
           simp only [Act.put, List.setIfInBounds_toArray, List.set_cons_zero, List.set_cons_succ, i64_w, i32_w]
           rfl
          refine take_ (i := 7) (N := some 30) (v := ?_) (a' := ?_) #[true, true, true, true, true, true, true, true, false, false, true, false, false, false] rfl rfl (take_ofW HT_.out HW_.out (by kernel_rfl)) (fun _ _ _ h => h) (Or.inl ⟨by rfl, ?_⟩) hHeld ?_ ?_
          rotate_left
          ·
           rintro w' ⟨s0, s1, s2, s3, s4, s5, s6, s7, s8, s9, s10, s11, s12, s13, s14, s15, s16, s17, s18, s19, s20, s21, s22⟩
           go_simp
           with_reducible rfl
          rotate_left
          ·
           simp only [Act.put, List.setIfInBounds_toArray, List.set_cons_zero, List.set_cons_succ, i64_w, i32_w]
           rfl
          refine take_ (i := 8) (N := some 31) (v := ?_) (a' := ?_) #[true, true, true, true, true, true, true, true, true, false, true, false, false, false] rfl rfl (take_ofW HT_.out HW_.out (by kernel_rfl)) (fun _ _ _ h => h) (Or.inl ⟨by rfl, ?_⟩) hHeld ?_ ?_
          rotate_left
          ·
           rintro w' ⟨s0, s1, s2, s3, s4, s5, s6, s7, s8, s9, s10, s11, s12, s13, s14, s15, s16, s17, s18, s19, s20, s21, s22⟩
           go_simp
           with_reducible rfl
          rotate_left
          ·
           simp only [Act.put, List.setIfInBounds_toArray, List.set_cons_zero, List.set_cons_succ, i64_w, i32_w]
           rfl
          refine take_ (i := 11) (N := some 34) (v := ?_) (a' := ?_) #[true, true, true, true, true, true, true, true, true, false, true, true, false, false] rfl rfl (take_ofW HT_.out HW_.out (by kernel_rfl)) (fun _ _ _ h => h) (Or.inl ⟨by rfl, ?_⟩) hHeld ?_ ?_
          rotate_left
          ·
           rintro w' ⟨s0, s1, s2, s3, s4, s5, s6, s7, s8, s9, s10, s11, s12, s13, s14, s15, s16, s17, s18, s19, s20, s21, s22⟩
           go_simp
           with_reducible rfl
          rotate_left
          ·
           simp only [Act.put, List.setIfInBounds_toArray, List.set_cons_zero, List.set_cons_succ, i64_w, i32_w]
           rfl
          refine one_ (i := 9) (N := some 32) #[true, true, true, true, true, true, true, true, true, true, true, true, false, false] rfl rfl (one_of HT_.out (by kernel_rfl)) (by decide) (fun K hK => ?_)
          refine goes_ Try.func15 (by kernel_rfl) rfl #[.agg #[.int .u32 ((rd_T32 l0_1 x19_2).f0), .int .u32 ((rd_T32 l0_1 x19_2).f1), .int .u64 ((rd_T32 l0_1 x19_2).f2), .int .u64 ((rd_T32 l0_1 x19_2).f3), .int .u64 ((rd_T32 l0_1 x19_2).f4), .int .u64 ((rd_T32 l0_1 x19_2).f5), .int .u64 ((rd_T32 l0_1 x19_2).f6)]] (by rfl) rfl rfl (by (try simp only [List.map_toArray, List.map_cons, List.map_nil]); first | done | rfl | (simp only [List.length_drop, List.length_take]; rfl)) ?_
          with_reducible refine (head_End.calls ((rd_T32 l0_1 x19_2).f0) ((rd_T32 l0_1 x19_2).f1) ((rd_T32 l0_1 x19_2).f2) ((rd_T32 l0_1 x19_2).f3) ((rd_T32 l0_1 x19_2).f4) ((rd_T32 l0_1 x19_2).f5) ((rd_T32 l0_1 x19_2).f6) t162 _ A12.out).mono ?_
          rintro e w27 ⟨rfl, hb⟩
          refine ⟨_, rfl, ?_⟩
          have n0_ := Aside0.mk (blk_below (g := gb159) (o := .cells #[.int .u16 a0_0, .slice (some ad160) l0_1.length c0_1, .int .u32 a0_2, .int .u32 a0_3, .int .u64 a0_4, .int .u64 a0_5, .int .u64 a0_6, .int .u64 a0_7, .int .u64 a0_8, .int .u32 a0_9, .int .u32 a0_10, .int .u64 a0_11, .int .u64 a0_12, .int .u64 a0_13, .int .u64 a0_14, .int .u64 a0_15] 37 (0, 0)) (by (with_reducible repeat (first | refine blk_drewN ?_ _ | refine blk_drew ?_ | refine blk_alloc ?_ _)); exact BK159.out) hb)
          have n1_ := Aside0.mk (blk_below (g := gb161) (o := .cells #[.int .u32 ((rd_T32 l0_1 x19_2).f0), .int .u32 ((rd_T32 l0_1 x19_2).f1), .int .u64 ((rd_T32 l0_1 x19_2).f2), .int .u64 ((rd_T32 l0_1 x19_2).f3), .int .u64 ((rd_T32 l0_1 x19_2).f4), .int .u64 ((rd_T32 l0_1 x19_2).f5), .int .u64 ((rd_T32 l0_1 x19_2).f6)] 32 (0, 0)) (by (with_reducible repeat (first | refine blk_drewN ?_ _ | refine blk_drew ?_ | refine blk_alloc ?_ _)); exact BK161.out) hb)
          have n2_ := Aside0.mk (below_step (by repeat (first | (with_reducible first | exact HB.out | apply below_alloc | apply pw_below_drewN | apply below_drew1 | refine below_set ?_ GE159.out | refine below_set ?_ GE161.out) | exact HB.out)) hb)
          clear BK159
          clear BK161
          clear HB
          have BK159 := n0_
          have BK161 := n1_
          have HB := n2_
          clear n0_ n1_ n2_
          (try clear hb)
          (try clear hb2)
          (try clear hk)
          (try clear hi)
          refine hK.out _ _ ⟨(blk_cell BK159.out 0).trans rfl, (blk_cell BK159.out 1).trans rfl, (blk_cell BK159.out 2).trans rfl, (blk_cell BK159.out 3).trans rfl, (blk_cell BK159.out 4).trans rfl, (blk_cell BK159.out 5).trans rfl, (blk_cell BK159.out 6).trans rfl, (blk_cell BK159.out 7).trans rfl, (blk_cell BK159.out 8).trans rfl, (blk_cell BK159.out 9).trans rfl, (blk_cell BK159.out 10).trans rfl, (blk_cell BK159.out 11).trans rfl, (blk_cell BK159.out 12).trans rfl, (blk_cell BK159.out 13).trans rfl, (blk_cell BK159.out 14).trans rfl, (blk_cell BK159.out 15).trans rfl, (blk_cell BK161.out 0).trans rfl, (blk_cell BK161.out 1).trans rfl, (blk_cell BK161.out 2).trans rfl, (blk_cell BK161.out 3).trans rfl, (blk_cell BK161.out 4).trans rfl, (blk_cell BK161.out 5).trans rfl, (blk_cell BK161.out 6).trans rfl⟩ (fun hHeld => ?_)
          clear hK K
          refine norm_ (a' := ?_) ?_ ?_
          rotate_left
          ·
           show Act.put _ (some 32) _ = _
           simp only [Act.put, List.setIfInBounds_toArray, List.set_cons_zero, List.set_cons_succ, i64_w, i32_w]
           rfl
          refine pure_ (i := 12) (N := some 35) (v := ?_) (a' := ?_) #[true, true, true, true, true, true, true, true, true, true, true, true, true, false] rfl rfl (any_of HT_.out (by kernel_rfl)) (fun _ _ _ h => h) (Or.inl ⟨by rfl, ?_⟩) ?_ ?_
          rotate_left
          ·
           intro w'
           go_simp
           with_reducible rfl
          rotate_left
          ·
           simp only [Act.put, List.setIfInBounds_toArray, List.set_cons_zero, List.set_cons_succ, i64_w, i32_w]
           rfl
          refine one_ (i := 13) (N := some 36) #[true, true, true, true, true, true, true, true, true, true, true, true, true, true] rfl rfl (one_of HT_.out (by kernel_rfl)) (by decide) (fun K hK => ?_)
          refine goes_ Try.func39 (by kernel_rfl) rfl #[.int .u64 a0_12, .int .u64 a0_14, .int .u64 ((rd_T32 l0_1 x19_2).f3), .int .u64 (IntKind.u64.wrap (t162 - ((rd_T32 l0_1 x19_2).f3)))] (by rfl) rfl rfl (by (try simp only [List.map_toArray, List.map_cons, List.map_nil]); first | done | rfl | (simp only [List.length_drop, List.length_take]; rfl)) ?_
          with_reducible refine (num_Inside.calls a0_12 a0_14 ((rd_T32 l0_1 x19_2).f3) (IntKind.u64.wrap (t162 - ((rd_T32 l0_1 x19_2).f3))) false _ A13.out).mono ?_
          rintro e w' ⟨rfl, ⟨nd, rfl⟩⟩
          refine ⟨_, rfl, ?_⟩
          refine hK.out _ _ ⟨(blk_cell BK159.out 0).trans rfl, (blk_cell BK159.out 1).trans rfl, (blk_cell BK159.out 2).trans rfl, (blk_cell BK159.out 3).trans rfl, (blk_cell BK159.out 4).trans rfl, (blk_cell BK159.out 5).trans rfl, (blk_cell BK159.out 6).trans rfl, (blk_cell BK159.out 7).trans rfl, (blk_cell BK159.out 8).trans rfl, (blk_cell BK159.out 9).trans rfl, (blk_cell BK159.out 10).trans rfl, (blk_cell BK159.out 11).trans rfl, (blk_cell BK159.out 12).trans rfl, (blk_cell BK159.out 13).trans rfl, (blk_cell BK159.out 14).trans rfl, (blk_cell BK159.out 15).trans rfl, (blk_cell BK161.out 0).trans rfl, (blk_cell BK161.out 1).trans rfl, (blk_cell BK161.out 2).trans rfl, (blk_cell BK161.out 3).trans rfl, (blk_cell BK161.out 4).trans rfl, (blk_cell BK161.out 5).trans rfl, (blk_cell BK161.out 6).trans rfl⟩ (fun hHeld => ?_)
          clear hK K
          refine norm_ (a' := ?_) ?_ ?_
          rotate_left
          ·
           show Act.put _ (some 36) _ = _
           simp only [Act.put, List.setIfInBounds_toArray, List.set_cons_zero, List.set_cons_succ, i64_w, i32_w]
           rfl
          refine done_ (done_of HT_.out (by kernel_rfl)) ?_
          try go_wp2
          go_roundg k2
          case measure => have := HJ1.out; have := HK2.out; omega
          case rel => exact ⟨(wrap64 (x19_2 + 1)), (by first | rfl | (simp; done) | (simp [*]; done)), H', ⟨by have := HJ1.out; have := HK2.out; omega⟩, ⟨by (with_reducible repeat (first | refine blk_drewN ?_ _ | refine blk_drew ?_ | refine blk_alloc ?_ _)); exact BK159.out⟩, ⟨by repeat (first | (with_reducible first | exact HB.out | apply below_alloc | apply pw_below_drewN | apply below_drew1 | refine below_set ?_ GE159.out | refine below_set ?_ GE161.out) | exact HB.out)⟩⟩
        ·
         rw [if_neg c11] at H
         exact absurd H (by simp)
       ·
        rw [if_neg c10] at H
        exact absurd H (by simp)
      ·
       rw [if_neg c9] at H
       have c9b0 : decide (x19_2 < (l0_1.length : Int)) = false := decide_eq_false c9
       clear c9
       obtain rfl := Option.some.inj H
       go_wp2
       go_ret
       exact ⟨by first | rfl | (simp [errW_none, errW_some] <;> rfl) | (simp [*, errW_none, errW_some] <;> rfl), by repeat (first | (with_reducible first | exact HB.out | apply below_alloc | apply pw_below_drewN | apply below_drew1 | refine below_set ?_ GE159.out) | exact HB.out)⟩

end Go.Proofs.Ytlegpojjbeglhaa.P
