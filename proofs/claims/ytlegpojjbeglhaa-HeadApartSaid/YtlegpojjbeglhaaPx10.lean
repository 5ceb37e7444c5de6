/- For functions of this seat: a plain Lean function each, and the proof that the call answers so; written by a program of this session out of the translation. No condition beyond those that stand in each theorem. -/
import Derived.Test.YtlegpojjbeglhaaPx10d
import Derived.Test.YtlegpojjbeglhaaPx0
import Derived.Test.YtlegpojjbeglhaaPx4
import Derived.Test.YtlegpojjbeglhaaPx7
import Derived.Test.YtlegpojjbeglhaaPx8
namespace Go.Proofs.Ytlegpojjbeglhaa.P
open Go.RowKit Go.Proofs.YtlegpojjbeglhaaW.PrintWords Go.Proofs.YtlegpojjbeglhaaW.PrintLast Go.Proofs.YtlegpojjbeglhaaW.PrintMore
attribute [local go_sem] max2_int min2_int max_two min_two max_three min_three max_four min_four   -- for this text's walks alone
set_option linter.unusedVariables false
set_option linter.unusedSimpArgs false

/-! ### messuagelaw08_HeadApart: function 4 -/
set_option maxHeartbeats 2000000 in
set_option maxRecDepth 100000 in
theorem messuagelaw08_HeadApart.calls (k : Nat) (A0 : Option Addr) (c0 : Nat) (l0 : List Int) (r : Bool) (w : World) (hr0 : Kd.C (Kd.int .u8) w A0 l0.length l0) (hc0 : l0.length ≤ c0) (h : messuagelaw08_HeadApart.f k l0 = some r) :
  Calls Try.prog 4 #[.slice A0 l0.length c0] w fun e w' => e = .returned (.bool r) ∧ Below w.heap.size w w' := by
 have hu37 := Try.underlying37
 have hu32 := Try.underlying32
 have HR0 := Aside0.mk hr0
 have HC0 := Aside0.mk hc0
 clear hr0 hc0
 have HB := Aside0.mk (Below.refl w.heap.size w)
 have H : (if (l0.length : Int) > 262144 then (some true) else ((head_Parse.f k l0).bind fun bt251 => (if bt251.2.2.2.2.2.2.2.2.2.2.2.2.2.2.2.2 = 0 then (messuagelaw08_HeadApart.l0 k l0 0 0 bt251.1 bt251.2.1 bt251.2.2.1 bt251.2.2.2.1 bt251.2.2.2.2.1 bt251.2.2.2.2.2.1 bt251.2.2.2.2.2.2.1 bt251.2.2.2.2.2.2.2.1 bt251.2.2.2.2.2.2.2.2.1 bt251.2.2.2.2.2.2.2.2.2.1 bt251.2.2.2.2.2.2.2.2.2.2.1 bt251.2.2.2.2.2.2.2.2.2.2.2.1 bt251.2.2.2.2.2.2.2.2.2.2.2.2.1 bt251.2.2.2.2.2.2.2.2.2.2.2.2.2.1 bt251.2.2.2.2.2.2.2.2.2.2.2.2.2.2.1 bt251.2.2.2.2.2.2.2.2.2.2.2.2.2.2.2.1) else (if (bt251.2.1.length : Int) = 0 then ((messuagelaw08_alive.f k).bind fun t271 => (some t271)) else (some false))))) = some r := h
 clear h
 by_cases c2 : (l0.length : Int) > 262144
 ·
  rw [if_pos c2] at H
  have c2b0 : decide (262144 < (l0.length : Int)) = true := decide_eq_true c2
  have c2b1 : decide (262144 < l0.length) = true := decide_eq_true (by omega)
  clear c2
  obtain rfl := Option.some.inj H
  go_enter Try.func4, Try.ntmps4
  go_wp2_with (first | ((with_reducible refine gate_dst (N := 48) rfl ?_); refine HeadBox.load_block (ty := 32) (x := .tmp 7) rfl rfl rfl BK276.out Try.underlying32 rfl (by kernel_rfl) ?_) | ((with_reducible refine gate_dst (N := 54) rfl ?_); refine HeadBox.load_block (ty := 32) (x := .tmp 7) rfl rfl rfl BK276.out Try.underlying32 rfl (by kernel_rfl) ?_) | ((with_reducible refine gate_dst (N := 64) rfl ?_); refine HeadBox.load_block (ty := 32) (x := .tmp 7) rfl rfl rfl BK276.out Try.underlying32 rfl (by kernel_rfl) ?_) | ((with_reducible refine gate_dst (N := 98) rfl ?_); refine HeadBox.load_block (ty := 32) (x := .tmp 7) rfl rfl rfl BK276.out Try.underlying32 rfl (by kernel_rfl) ?_) | ((with_reducible refine gate_dst (N := 106) rfl ?_); refine HeadBox.load_block (ty := 37) (x := .tmp 3) rfl rfl rfl BK270.out Try.underlying37 rfl (by kernel_rfl) ?_) | ((with_reducible refine gate_dst (N := 113) rfl ?_); refine HeadBox.load_block (ty := 37) (x := .tmp 3) rfl rfl rfl BK270.out Try.underlying37 rfl (by kernel_rfl) ?_))
  go_ret
  exact ⟨by first | rfl | (simp [errW_none, errW_some] <;> rfl) | (simp [*, errW_none, errW_some] <;> rfl), by repeat (first | (with_reducible first | exact HB.out | apply below_alloc | apply pw_below_drewN | apply below_drew1) | exact HB.out)⟩
 ·
  rw [if_neg c2] at H
  have c2b0 : decide (262144 < (l0.length : Int)) = false := decide_eq_false c2
  have c2b1 : decide (262144 < l0.length) = false := decide_eq_false (by omega)
  clear c2
  replace H := Option.bind_eq_some_iff.mp H
  obtain ⟨⟨t251, t252, t255, t256, t257, t258, t259, t260, t261, t262, t263, t264, t265, t266, t267, t268, t269⟩, A30, H⟩ := H
  replace H : (if t269 = 0 then (messuagelaw08_HeadApart.l0 k l0 0 0 t251 t252 t255 t256 t257 t258 t259 t260 t261 t262 t263 t264 t265 t266 t267 t268) else (if (t252.length : Int) = 0 then ((messuagelaw08_alive.f k).bind fun t271 => (some t271)) else (some false))) = some r := H
  have A3 := Aside0.mk A30
  clear A30
  by_cases c4 : t269 = 0
  ·
   rw [if_pos c4] at H
   have c4b0 : (t269 == 0) = true := beq_iff_eq.mpr c4
   have c4b1 : (t269 != 0) = false := bne_eq_false_iff_eq.mpr c4
   clear c4
   have H' := Aside0.mk H
   clear H
   go_enter Try.func4, Try.ntmps4
   go_wp2_with (first | ((with_reducible refine gate_dst (N := 48) rfl ?_); refine HeadBox.load_block (ty := 32) (x := .tmp 7) rfl rfl rfl BK276.out Try.underlying32 rfl (by kernel_rfl) ?_) | ((with_reducible refine gate_dst (N := 54) rfl ?_); refine HeadBox.load_block (ty := 32) (x := .tmp 7) rfl rfl rfl BK276.out Try.underlying32 rfl (by kernel_rfl) ?_) | ((with_reducible refine gate_dst (N := 64) rfl ?_); refine HeadBox.load_block (ty := 32) (x := .tmp 7) rfl rfl rfl BK276.out Try.underlying32 rfl (by kernel_rfl) ?_) | ((with_reducible refine gate_dst (N := 98) rfl ?_); refine HeadBox.load_block (ty := 32) (x := .tmp 7) rfl rfl rfl BK276.out Try.underlying32 rfl (by kernel_rfl) ?_) | ((with_reducible refine gate_dst (N := 106) rfl ?_); refine HeadBox.load_block (ty := 37) (x := .tmp 3) rfl rfl rfl BK270.out Try.underlying37 rfl (by kernel_rfl) ?_) | ((with_reducible refine gate_dst (N := 113) rfl ?_); refine HeadBox.load_block (ty := 37) (x := .tmp 3) rfl rfl rfl BK270.out Try.underlying37 rfl (by kernel_rfl) ?_) | ((with_reducible refine gate_callee (f := 14) rfl ?_); refine goesL_ (some 13) rfl rfl Try.func14 (by kernel_rfl) rfl #[.slice A0 l0.length c0] rfl (by (try simp only [List.map_toArray, List.map_cons, List.map_nil]); first | done | rfl | (simp only [List.length_drop, List.length_take]; rfl)) ?_; (with_reducible refine (head_Parse.calls k _ _ l0 t251 t252 t255 t256 t257 t258 t259 t260 t261 t262 t263 t264 t265 t266 t267 t268 t269 _ ?side1 ?side2 A3.out).mono ?_); (case side1 => repeat (first | exact HR0.out | (with_reducible refine Kd.C_alloc ?_ _) | (with_reducible refine Kd.C_drewN ?_ _) | (with_reducible refine Kd.C_drew ?_))); (case side2 => exact HC0.out); rintro e w5 ⟨v253, rfl, ho0, hb⟩; refine ⟨_, rfl, ?_⟩; have n0_ := Aside0.mk (Kd.R_lower ho0 (below_size (by repeat (first | (with_reducible first | exact HB.out | apply below_alloc | apply pw_below_drewN | apply below_drew1) | exact HB.out)))); have n1_ := Aside0.mk (below_step (by repeat (first | (with_reducible first | exact HB.out | apply below_alloc | apply pw_below_drewN | apply below_drew1) | exact HB.out)) hb); clear HB; have HO254 := n0_; have HB := n1_; clear n0_ n1_; (try clear hb); (try clear hb2); (try clear hk); (try clear hi); (try clear ho0)) | ((with_reducible refine gate_dst (N := 3) rfl ?_); (try (refine gate_guard (by rfl) ?_; dsimp only)); refine box_event ?hg (N := 3) ?hd (cs := #[.int .u16 0, .slice none 0 0, .int .u32 0, .int .u32 0, .int .u64 0, .int .u64 0, .int .u64 0, .int .u64 0, .int .u64 0, .int .u32 0, .int .u32 0, .int .u64 0, .int .u64 0, .int .u64 0, .int .u64 0, .int .u64 0]) (t := 37) ?hr ?_; (case hd => rfl); (case hg => rfl); (case hr => first | (go_simp; done) | (go_simp; rfl)); intro gb270 hg w6 hbox hb; have n0_ := Aside0.mk (Kd.R_below (by (with_reducible repeat (first | apply Kd.R_alloc | apply Kd.R_drewN | apply Kd.R_drew)); exact HO254.out) hb); have n1_ := Aside0.mk (below_step (by repeat (first | (with_reducible first | exact HB.out | apply below_alloc | apply pw_below_drewN | apply below_drew1) | exact HB.out)) hb); have n2_ := Aside0.mk (hbox); have n3_ := Aside0.mk ((by rw [hg]; exact (below_size (by repeat (first | (with_reducible first | exact HB.out | apply below_alloc | apply pw_below_drewN | apply below_drew1) | exact HB.out))) : w.heap.size ≤ gb270)); have n4_ := Aside0.mk ((by rw [hg]; exact (below_size (by repeat (first | (with_reducible first | exact HB.out | apply below_alloc | apply pw_below_drewN | apply below_drew1) | exact HB.out))) : w.heap.size ≤ gb270)); clear HO254; clear HB; have HO254 := n0_; have HB := n1_; have BK270 := n2_; have GW270 := n3_; have GE270 := n4_; clear n0_ n1_ n2_ n3_ n4_; clear hb hbox hg; have hcz7_0 : w6.cell? ⟨gb270, 0, none⟩ = some (.int .u16 0) := (blk_cell BK270.out 0).trans rfl; have hcz7_1 : w6.cell? ⟨gb270, 1, none⟩ = some (.slice none 0 0) := (blk_cell BK270.out 1).trans rfl; have hcz7_2 : w6.cell? ⟨gb270, 2, none⟩ = some (.int .u32 0) := (blk_cell BK270.out 2).trans rfl; have hcz7_3 : w6.cell? ⟨gb270, 3, none⟩ = some (.int .u32 0) := (blk_cell BK270.out 3).trans rfl; have hcz7_4 : w6.cell? ⟨gb270, 4, none⟩ = some (.int .u64 0) := (blk_cell BK270.out 4).trans rfl; have hcz7_5 : w6.cell? ⟨gb270, 5, none⟩ = some (.int .u64 0) := (blk_cell BK270.out 5).trans rfl; have hcz7_6 : w6.cell? ⟨gb270, 6, none⟩ = some (.int .u64 0) := (blk_cell BK270.out 6).trans rfl; have hcz7_7 : w6.cell? ⟨gb270, 7, none⟩ = some (.int .u64 0) := (blk_cell BK270.out 7).trans rfl; have hcz7_8 : w6.cell? ⟨gb270, 8, none⟩ = some (.int .u64 0) := (blk_cell BK270.out 8).trans rfl; have hcz7_9 : w6.cell? ⟨gb270, 9, none⟩ = some (.int .u32 0) := (blk_cell BK270.out 9).trans rfl; have hcz7_10 : w6.cell? ⟨gb270, 10, none⟩ = some (.int .u32 0) := (blk_cell BK270.out 10).trans rfl; have hcz7_11 : w6.cell? ⟨gb270, 11, none⟩ = some (.int .u64 0) := (blk_cell BK270.out 11).trans rfl; have hcz7_12 : w6.cell? ⟨gb270, 12, none⟩ = some (.int .u64 0) := (blk_cell BK270.out 12).trans rfl; have hcz7_13 : w6.cell? ⟨gb270, 13, none⟩ = some (.int .u64 0) := (blk_cell BK270.out 13).trans rfl; have hcz7_14 : w6.cell? ⟨gb270, 14, none⟩ = some (.int .u64 0) := (blk_cell BK270.out 14).trans rfl; have hcz7_15 : w6.cell? ⟨gb270, 15, none⟩ = some (.int .u64 0) := (blk_cell BK270.out 15).trans rfl; have hfz7_0 := blk_frozen BK270.out 0; have hfz7_1 := blk_frozen BK270.out 1; have hfz7_2 := blk_frozen BK270.out 2; have hfz7_3 := blk_frozen BK270.out 3; have hfz7_4 := blk_frozen BK270.out 4; have hfz7_5 := blk_frozen BK270.out 5; have hfz7_6 := blk_frozen BK270.out 6; have hfz7_7 := blk_frozen BK270.out 7; have hfz7_8 := blk_frozen BK270.out 8; have hfz7_9 := blk_frozen BK270.out 9; have hfz7_10 := blk_frozen BK270.out 10; have hfz7_11 := blk_frozen BK270.out 11; have hfz7_12 := blk_frozen BK270.out 12; have hfz7_13 := blk_frozen BK270.out 13; have hfz7_14 := blk_frozen BK270.out 14; have hfz7_15 := blk_frozen BK270.out 15; obtain ⟨Ao8, co8, eo8⟩ := Kd.R_slice HO254.out; subst eo8) | ((with_reducible refine gate_store (t := 37) (p := 3) rfl ?_); refine HeadBox.store_letter (ty := 37) (x := .tmp 3) (y := .tmp 14) gb270 0 #[.int .u16 t251, .slice Ao8 t252.length co8, .int .u32 t255, .int .u32 t256, .int .u64 t257, .int .u64 t258, .int .u64 t259, .int .u64 t260, .int .u64 t261, .int .u32 t262, .int .u32 t263, .int .u64 t264, .int .u64 t265, .int .u64 t266, .int .u64 t267, .int .u64 t268] rfl rfl rfl rfl (show (World.heap _)[gb270]? = some (.cells #[.int .u16 0, .slice none 0 0, .int .u32 0, .int .u32 0, .int .u64 0, .int .u64 0, .int .u64 0, .int .u64 0, .int .u64 0, .int .u32 0, .int .u32 0, .int .u64 0, .int .u64 0, .int .u64 0, .int .u64 0, .int .u64 0] 37 (0, 0)) from (by (with_reducible repeat (first | refine blk_drewN ?_ _ | refine blk_drew ?_ | refine blk_alloc ?_ _)); exact BK270.out)) (by exact (show 0 + 16 ≤ 16 by decide)) (by kernel_rfl) (all_oneCell_toArray (by simp [Value.oneCell'])) ?_; intro w9 hw; have n0_ : Aside0 (Kd.R k32 32 w9 w.heap.size (fun _ => True) (.slice Ao8 t252.length co8) t252) := ⟨(by rw [hw]; refine HeadBox.R_puts gb270 37 (by decide) _ _ _ #[.int .u16 0, .slice none 0 0, .int .u32 0, .int .u32 0, .int .u64 0, .int .u64 0, .int .u64 0, .int .u64 0, .int .u64 0, .int .u32 0, .int .u32 0, .int .u64 0, .int .u64 0, .int .u64 0, .int .u64 0, .int .u64 0] ?_ ?_; (· ((with_reducible repeat (first | refine blk_drewN ?_ _ | refine blk_drew ?_ | refine blk_alloc ?_ _)); exact BK270.out)); (· (exact (by (with_reducible repeat (first | apply Kd.R_alloc | apply Kd.R_drewN | apply Kd.R_drew)); exact HO254.out))))⟩; have n1_ : Aside0 (w9.heap[gb270]? = some (.cells #[.int .u16 t251, .slice Ao8 t252.length co8, .int .u32 t255, .int .u32 t256, .int .u64 t257, .int .u64 t258, .int .u64 t259, .int .u64 t260, .int .u64 t261, .int .u32 t262, .int .u32 t263, .int .u64 t264, .int .u64 t265, .int .u64 t266, .int .u64 t267, .int .u64 t268] 37 (0, 0))) := ⟨(by rw [hw]; refine (HeadBox.blk_puts gb270 37 _ _ _ #[.int .u16 0, .slice none 0 0, .int .u32 0, .int .u32 0, .int .u64 0, .int .u64 0, .int .u64 0, .int .u64 0, .int .u64 0, .int .u32 0, .int .u32 0, .int .u64 0, .int .u64 0, .int .u64 0, .int .u64 0, .int .u64 0] ?_).trans ?_; (· ((with_reducible repeat (first | refine blk_drewN ?_ _ | refine blk_drew ?_ | refine blk_alloc ?_ _)); exact BK270.out)); (· (exact congrArg (fun c_ => some (Obj.cells c_ 37 (0, 0))) (show HeadBox.putMany #[.int .u16 0, .slice none 0 0, .int .u32 0, .int .u32 0, .int .u64 0, .int .u64 0, .int .u64 0, .int .u64 0, .int .u64 0, .int .u32 0, .int .u32 0, .int .u64 0, .int .u64 0, .int .u64 0, .int .u64 0, .int .u64 0] 0 [.int .u16 t251, .slice Ao8 t252.length co8, .int .u32 t255, .int .u32 t256, .int .u64 t257, .int .u64 t258, .int .u64 t259, .int .u64 t260, .int .u64 t261, .int .u32 t262, .int .u32 t263, .int .u64 t264, .int .u64 t265, .int .u64 t266, .int .u64 t267, .int .u64 t268] = #[.int .u16 t251, .slice Ao8 t252.length co8, .int .u32 t255, .int .u32 t256, .int .u64 t257, .int .u64 t258, .int .u64 t259, .int .u64 t260, .int .u64 t261, .int .u32 t262, .int .u32 t263, .int .u64 t264, .int .u64 t265, .int .u64 t266, .int .u64 t267, .int .u64 t268] by simp [HeadBox.putMany]))))⟩; have n2_ : Aside0 (Below w.heap.size w w9) := ⟨(by rw [hw]; refine HeadBox.below_puts gb270 w GE270.out _ _ _ ?_; exact (by repeat (first | (with_reducible first | exact HB.out | apply below_alloc | apply pw_below_drewN | apply below_drew1 | refine below_set ?_ GE270.out) | exact HB.out)))⟩; clear hw; clear HO254; clear BK270; clear HB; have HO254 := n0_; have BK270 := n1_; have HB := n2_; clear n0_ n1_ n2_))
   go_loopg [5, 6] k (fun kq v5 v6 w' => ∃ (x5_1 : Int) (x6_1 : Int), v5 = .int .u64 x5_1 ∧ v6 = .int .i64 x6_1 ∧ Aside0 (messuagelaw08_HeadApart.l0 kq l0 x5_1 x6_1 t251 t252 t255 t256 t257 t258 t259 t260 t261 t262 t263 t264 t265 t266 t267 t268 = some r) ∧ Aside0 (kq ≤ k) ∧ Aside0 (Kd.R k32 32 w' w.heap.size (fun _ => True) (.slice Ao8 t252.length co8) t252) ∧ Aside0 (w'.heap[gb270]? = some (.cells #[.int .u16 t251, (.slice Ao8 t252.length co8), .int .u32 t255, .int .u32 t256, .int .u64 t257, .int .u64 t258, .int .u64 t259, .int .u64 t260, .int .u64 t261, .int .u32 t262, .int .u32 t263, .int .u64 t264, .int .u64 t265, .int .u64 t266, .int .u64 t267, .int .u64 t268] 37 (0, 0))) ∧ Aside0 (Below w.heap.size w w'))
   case atStart => exact ⟨(0), (0), (by first | rfl | (simp; done) | (simp [*]; done)), (by first | rfl | (simp; done) | (simp [*]; done)), H', ⟨Nat.le_refl _⟩, ⟨by (with_reducible repeat (first | apply Kd.R_alloc | apply Kd.R_drewN | apply Kd.R_drew)); exact HO254.out⟩, ⟨by (with_reducible repeat (first | refine blk_drewN ?_ _ | refine blk_drew ?_ | refine blk_alloc ?_ _)); exact BK270.out⟩, ⟨by repeat (first | (with_reducible first | exact HB.out | apply below_alloc | apply pw_below_drewN | apply below_drew1 | refine below_set ?_ GE270.out) | exact HB.out)⟩⟩
   case round =>
    clear H'
    try clear c1
    try clear c2
    try clear c2b0
    try clear c2b1
    try clear p2
    try clear c4
    try clear c4b0
    try clear c4b1
    try clear hcz7_0
    try clear hcz7_1
    try clear hcz7_10
    try clear hcz7_11
    try clear hcz7_12
    try clear hcz7_13
    try clear hcz7_14
    try clear hcz7_15
    try clear hcz7_2
    try clear hcz7_3
    try clear hcz7_4
    try clear hcz7_5
    try clear hcz7_6
    try clear hcz7_7
    try clear hcz7_8
    try clear hcz7_9
    try clear hfz7_0
    try clear hfz7_1
    try clear hfz7_10
    try clear hfz7_11
    try clear hfz7_12
    try clear hfz7_13
    try clear hfz7_14
    try clear hfz7_15
    try clear hfz7_2
    try clear hfz7_3
    try clear hfz7_4
    try clear hfz7_5
    try clear hfz7_6
    try clear hfz7_7
    try clear hfz7_8
    try clear hfz7_9
    obtain ⟨x5_1, x6_1, rfl, rfl, HA, HK1, HO_271001, BK270, HB⟩ := hrel
    cases gk with
    | zero => exact absurd HA.out (by simp [messuagelaw08_HeadApart.l0])
    | succ k1 =>
     have H := HA.out
     clear HA
     simp only [messuagelaw08_HeadApart.l0] at H
     by_cases c10 : x6_1 < (t252.length : Int)
     ·
      rw [if_pos c10] at H
      have c10b0 : decide (x6_1 < (t252.length : Int)) = true := decide_eq_true c10
      clear c10
      by_cases c11 : 0 ≤ x6_1
      ·
       rw [if_pos c11] at H
       have c11b0 : decide (0 ≤ x6_1) = true := decide_eq_true c11
       clear c11
       have HC12 := Aside0.mk H
       clear H
       have hcz13_0 : wr.cell? ⟨gb270, 0, none⟩ = some (.int .u16 t251) := (blk_cell BK270.out 0).trans rfl
       have hcz13_1 : wr.cell? ⟨gb270, 1, none⟩ = some (.slice Ao8 t252.length co8) := (blk_cell BK270.out 1).trans rfl
       have hcz13_2 : wr.cell? ⟨gb270, 2, none⟩ = some (.int .u32 t255) := (blk_cell BK270.out 2).trans rfl
       have hcz13_3 : wr.cell? ⟨gb270, 3, none⟩ = some (.int .u32 t256) := (blk_cell BK270.out 3).trans rfl
       have hcz13_4 : wr.cell? ⟨gb270, 4, none⟩ = some (.int .u64 t257) := (blk_cell BK270.out 4).trans rfl
       have hcz13_5 : wr.cell? ⟨gb270, 5, none⟩ = some (.int .u64 t258) := (blk_cell BK270.out 5).trans rfl
       have hcz13_6 : wr.cell? ⟨gb270, 6, none⟩ = some (.int .u64 t259) := (blk_cell BK270.out 6).trans rfl
       have hcz13_7 : wr.cell? ⟨gb270, 7, none⟩ = some (.int .u64 t260) := (blk_cell BK270.out 7).trans rfl
       have hcz13_8 : wr.cell? ⟨gb270, 8, none⟩ = some (.int .u64 t261) := (blk_cell BK270.out 8).trans rfl
       have hcz13_9 : wr.cell? ⟨gb270, 9, none⟩ = some (.int .u32 t262) := (blk_cell BK270.out 9).trans rfl
       have hcz13_10 : wr.cell? ⟨gb270, 10, none⟩ = some (.int .u32 t263) := (blk_cell BK270.out 10).trans rfl
       have hcz13_11 : wr.cell? ⟨gb270, 11, none⟩ = some (.int .u64 t264) := (blk_cell BK270.out 11).trans rfl
       have hcz13_12 : wr.cell? ⟨gb270, 12, none⟩ = some (.int .u64 t265) := (blk_cell BK270.out 12).trans rfl
       have hcz13_13 : wr.cell? ⟨gb270, 13, none⟩ = some (.int .u64 t266) := (blk_cell BK270.out 13).trans rfl
       have hcz13_14 : wr.cell? ⟨gb270, 14, none⟩ = some (.int .u64 t267) := (blk_cell BK270.out 14).trans rfl
       have hcz13_15 : wr.cell? ⟨gb270, 15, none⟩ = some (.int .u64 t268) := (blk_cell BK270.out 15).trans rfl
       have hfz13_0 := blk_frozen BK270.out 0
       have hfz13_1 := blk_frozen BK270.out 1
       have hfz13_2 := blk_frozen BK270.out 2
       have hfz13_3 := blk_frozen BK270.out 3
       have hfz13_4 := blk_frozen BK270.out 4
       have hfz13_5 := blk_frozen BK270.out 5
       have hfz13_6 := blk_frozen BK270.out 6
       have hfz13_7 := blk_frozen BK270.out 7
       have hfz13_8 := blk_frozen BK270.out 8
       have hfz13_9 := blk_frozen BK270.out 9
       have hfz13_10 := blk_frozen BK270.out 10
       have hfz13_11 := blk_frozen BK270.out 11
       have hfz13_12 := blk_frozen BK270.out 12
       have hfz13_13 := blk_frozen BK270.out 13
       have hfz13_14 := blk_frozen BK270.out 14
       have hfz13_15 := blk_frozen BK270.out 15
       have p275 : 0 ≤ (x6_1 : Int) := of_decide_eq_true (by first | (with_reducible assumption) | assumption)
       have q275 : x6_1 < (t252.length : Int) := of_decide_eq_true (by first | (with_reducible assumption) | assumption)
       obtain ⟨ad275, e275, hx275_0, hx275_1, hx275_2, hx275_3, hx275_4, hx275_5, hx275_6⟩ := at_T32 (Kd.R_reads' HO_271001.out).2.2 x6_1 p275 q275
       cases e275
       replace p275 := eq_true p275
       replace q275 := eq_true q275
       go_upto_region 11 with (first | ((with_reducible refine gate_dst (N := 48) rfl ?_); refine HeadBox.load_block (ty := 32) (x := .tmp 7) rfl rfl rfl BK276.out Try.underlying32 rfl (by kernel_rfl) ?_) | ((with_reducible refine gate_dst (N := 54) rfl ?_); refine HeadBox.load_block (ty := 32) (x := .tmp 7) rfl rfl rfl BK276.out Try.underlying32 rfl (by kernel_rfl) ?_) | ((with_reducible refine gate_dst (N := 64) rfl ?_); refine HeadBox.load_block (ty := 32) (x := .tmp 7) rfl rfl rfl BK276.out Try.underlying32 rfl (by kernel_rfl) ?_) | ((with_reducible refine gate_dst (N := 98) rfl ?_); refine HeadBox.load_block (ty := 32) (x := .tmp 7) rfl rfl rfl BK276.out Try.underlying32 rfl (by kernel_rfl) ?_) | ((with_reducible refine gate_dst (N := 106) rfl ?_); refine HeadBox.load_block (ty := 37) (x := .tmp 3) rfl rfl rfl BK270.out Try.underlying37 rfl (by kernel_rfl) ?_) | ((with_reducible refine gate_dst (N := 113) rfl ?_); refine HeadBox.load_block (ty := 37) (x := .tmp 3) rfl rfl rfl BK270.out Try.underlying37 rfl (by kernel_rfl) ?_) | ((with_reducible refine gate_dst (N := 7) rfl ?_); (try (refine gate_guard (by rfl) ?_; dsimp only)); refine box_event ?hg (N := 7) ?hd (cs := #[.int .u32 0, .int .u32 0, .int .u64 0, .int .u64 0, .int .u64 0, .int .u64 0, .int .u64 0]) (t := 32) ?hr ?_; (case hd => rfl); (case hg => rfl); (case hr => first | (go_simp; done) | (go_simp; rfl)); intro gb276 hg w14 hbox hb; have n0_ := Aside0.mk (Kd.R_below (Kd.R_elderB (by (with_reducible repeat (first | apply Kd.R_alloc | apply Kd.R_drewN | apply Kd.R_drew)); exact HO_271001.out) gb276 (Nat.le_of_eq hg.symm)) hb); have n1_ := Aside0.mk (blk_below (g := gb270) (o := .cells #[.int .u16 t251, .slice (some ad275) t252.length co8, .int .u32 t255, .int .u32 t256, .int .u64 t257, .int .u64 t258, .int .u64 t259, .int .u64 t260, .int .u64 t261, .int .u32 t262, .int .u32 t263, .int .u64 t264, .int .u64 t265, .int .u64 t266, .int .u64 t267, .int .u64 t268] 37 (0, 0)) (by (with_reducible repeat (first | refine blk_drewN ?_ _ | refine blk_drew ?_ | refine blk_alloc ?_ _)); exact BK270.out) hb); have n2_ := Aside0.mk (below_step (by repeat (first | (with_reducible first | exact HB.out | apply below_alloc | apply pw_below_drewN | apply below_drew1 | refine below_set ?_ GE270.out) | exact HB.out)) hb); have n3_ := Aside0.mk (hbox); have n4_ := Aside0.mk ((by rw [hg]; exact (below_size (by repeat (first | (with_reducible first | exact HB.out | apply below_alloc | apply pw_below_drewN | apply below_drew1 | refine below_set ?_ GE270.out) | exact HB.out))) : w.heap.size ≤ gb276)); have n5_ := Aside0.mk ((by rw [hg]; exact (below_size (by repeat (first | (with_reducible first | exact HB.out | apply below_alloc | apply pw_below_drewN | apply below_drew1 | refine below_set ?_ GE270.out) | exact HB.out))) : w.heap.size ≤ gb276)); have n6_ := Aside0.mk ((by rw [hg]; exact Nat.ne_of_lt (blk_lt (g := gb270) (o := .cells #[.int .u16 t251, .slice (some ad275) t252.length co8, .int .u32 t255, .int .u32 t256, .int .u64 t257, .int .u64 t258, .int .u64 t259, .int .u64 t260, .int .u64 t261, .int .u32 t262, .int .u32 t263, .int .u64 t264, .int .u64 t265, .int .u64 t266, .int .u64 t267, .int .u64 t268] 37 (0, 0)) (by (with_reducible repeat (first | refine blk_drewN ?_ _ | refine blk_drew ?_ | refine blk_alloc ?_ _)); exact BK270.out)) : gb270 ≠ gb276)); have n7_ := Aside0.mk ((by rw [hg]; exact Nat.ne_of_gt (blk_lt (g := gb270) (o := .cells #[.int .u16 t251, .slice (some ad275) t252.length co8, .int .u32 t255, .int .u32 t256, .int .u64 t257, .int .u64 t258, .int .u64 t259, .int .u64 t260, .int .u64 t261, .int .u32 t262, .int .u32 t263, .int .u64 t264, .int .u64 t265, .int .u64 t266, .int .u64 t267, .int .u64 t268] 37 (0, 0)) (by (with_reducible repeat (first | refine blk_drewN ?_ _ | refine blk_drew ?_ | refine blk_alloc ?_ _)); exact BK270.out)) : gb276 ≠ gb270)); clear HO_271001; clear BK270; clear HB; have HO_271001 := n0_; have BK270 := n1_; have HB := n2_; have BK276 := n3_; have GW276 := n4_; have GE276 := n5_; have NB270_276 := n6_; have NB276_270 := n7_; clear n0_ n1_ n2_ n3_ n4_ n5_ n6_ n7_; clear hb hbox hg; have hnb15 := NB276_270.out; have hnc15 := NB270_276.out; have hcz16_0 : w14.cell? ⟨gb276, 0, none⟩ = some (.int .u32 0) := (blk_cell BK276.out 0).trans rfl; have hcz16_1 : w14.cell? ⟨gb276, 1, none⟩ = some (.int .u32 0) := (blk_cell BK276.out 1).trans rfl; have hcz16_2 : w14.cell? ⟨gb276, 2, none⟩ = some (.int .u64 0) := (blk_cell BK276.out 2).trans rfl; have hcz16_3 : w14.cell? ⟨gb276, 3, none⟩ = some (.int .u64 0) := (blk_cell BK276.out 3).trans rfl; have hcz16_4 : w14.cell? ⟨gb276, 4, none⟩ = some (.int .u64 0) := (blk_cell BK276.out 4).trans rfl; have hcz16_5 : w14.cell? ⟨gb276, 5, none⟩ = some (.int .u64 0) := (blk_cell BK276.out 5).trans rfl; have hcz16_6 : w14.cell? ⟨gb276, 6, none⟩ = some (.int .u64 0) := (blk_cell BK276.out 6).trans rfl; have hfz16_0 := blk_frozen BK276.out 0; have hfz16_1 := blk_frozen BK276.out 1; have hfz16_2 := blk_frozen BK276.out 2; have hfz16_3 := blk_frozen BK276.out 3; have hfz16_4 := blk_frozen BK276.out 4; have hfz16_5 := blk_frozen BK276.out 5; have hfz16_6 := blk_frozen BK276.out 6))
       (try simp only [Act.put, List.setIfInBounds_toArray, List.set_cons_zero, List.set_cons_succ])
       go_cut [73] (fun v73 wc => ∃ (kq : Nat) (x73_11 : Bool), v73 = .bool x73_11 ∧ Aside0 (messuagelaw08_HeadApart.j1 kq l0 x6_1 x73_11 t251 t252 t255 t256 t257 t258 t259 t260 t261 t262 t263 t264 t265 t266 t267 t268 ((rd_T32 t252 x6_1).f0) ((rd_T32 t252 x6_1).f1) ((rd_T32 t252 x6_1).f2) ((rd_T32 t252 x6_1).f3) ((rd_T32 t252 x6_1).f4) ((rd_T32 t252 x6_1).f5) ((rd_T32 t252 x6_1).f6) = some r) ∧ Aside0 (kq ≤ k1) ∧ Aside0 (Kd.R k32 32 wc w.heap.size (fun k_ => k_ ≠ gb276) (.slice (some ad275) t252.length co8) t252) ∧ Aside0 (wc.heap[gb270]? = some (.cells #[.int .u16 t251, (.slice (some ad275) t252.length co8), .int .u32 t255, .int .u32 t256, .int .u64 t257, .int .u64 t258, .int .u64 t259, .int .u64 t260, .int .u64 t261, .int .u32 t262, .int .u32 t263, .int .u64 t264, .int .u64 t265, .int .u64 t266, .int .u64 t267, .int .u64 t268] 37 (0, 0))) ∧ Aside0 (wc.heap[gb276]? = some (.cells #[.int .u32 ((rd_T32 t252 x6_1).f0), .int .u32 ((rd_T32 t252 x6_1).f1), .int .u64 ((rd_T32 t252 x6_1).f2), .int .u64 ((rd_T32 t252 x6_1).f3), .int .u64 ((rd_T32 t252 x6_1).f4), .int .u64 ((rd_T32 t252 x6_1).f5), .int .u64 ((rd_T32 t252 x6_1).f6)] 32 (0, 0))) ∧ Aside0 (Below w.heap.size w wc))
       case first =>
        have H := HC12.out
        clear HC12
        by_cases c17 : ((rd_T32 t252 x6_1).f3) < x5_1
        ·
         rw [if_pos c17] at H
         have c17b0 : decide (((rd_T32 t252 x6_1).f3) < x5_1) = true := decide_eq_true c17
         clear c17
         (first | rw [c17b0] | (simp only [i64_w, i32_w]; rw [c17b0]) | skip)
         have H' := Aside0.mk H
         clear H
         try go_wp2
         have n0_ : Aside0 (Kd.R k32 32 (((((((w14.setCell ⟨gb276, 0, none⟩ (.int .u32 ((rd_T32 t252 x6_1).f0))).setCell ⟨gb276, 1, none⟩ (.int .u32 ((rd_T32 t252 x6_1).f1))).setCell ⟨gb276, 2, none⟩ (.int .u64 ((rd_T32 t252 x6_1).f2))).setCell ⟨gb276, 3, none⟩ (.int .u64 ((rd_T32 t252 x6_1).f3))).setCell ⟨gb276, 4, none⟩ (.int .u64 ((rd_T32 t252 x6_1).f4))).setCell ⟨gb276, 5, none⟩ (.int .u64 ((rd_T32 t252 x6_1).f5))).setCell ⟨gb276, 6, none⟩ (.int .u64 ((rd_T32 t252 x6_1).f6))) w.heap.size (fun k_ => k_ ≠ gb276) (.slice (some ad275) t252.length co8) t252) := ⟨by (with_reducible repeat (first | apply Kd.R_alloc | apply Kd.R_drewN | apply Kd.R_drew)); exact Kd.R_mono (Kd.R_far (p := ⟨gb276, 6, none⟩) (Kd.R_far (p := ⟨gb276, 5, none⟩) (Kd.R_far (p := ⟨gb276, 4, none⟩) (Kd.R_far (p := ⟨gb276, 3, none⟩) (Kd.R_far (p := ⟨gb276, 2, none⟩) (Kd.R_far (p := ⟨gb276, 1, none⟩) (Kd.R_far (p := ⟨gb276, 0, none⟩) (Kd.R_mono HO_271001.out (fun k_ hk => (⟨hk, hk.2⟩ : _ ∧ k_ ≠ gb276))) (fun _ hk => hk.2) (.int .u32 ((rd_T32 t252 x6_1).f0))) (fun _ hk => hk.2) (.int .u32 ((rd_T32 t252 x6_1).f1))) (fun _ hk => hk.2) (.int .u64 ((rd_T32 t252 x6_1).f2))) (fun _ hk => hk.2) (.int .u64 ((rd_T32 t252 x6_1).f3))) (fun _ hk => hk.2) (.int .u64 ((rd_T32 t252 x6_1).f4))) (fun _ hk => hk.2) (.int .u64 ((rd_T32 t252 x6_1).f5))) (fun _ hk => hk.2) (.int .u64 ((rd_T32 t252 x6_1).f6))) (fun _ hk => hk.1.2)⟩
         have n1_ : Aside0 ((((((((w14.setCell ⟨gb276, 0, none⟩ (.int .u32 ((rd_T32 t252 x6_1).f0))).setCell ⟨gb276, 1, none⟩ (.int .u32 ((rd_T32 t252 x6_1).f1))).setCell ⟨gb276, 2, none⟩ (.int .u64 ((rd_T32 t252 x6_1).f2))).setCell ⟨gb276, 3, none⟩ (.int .u64 ((rd_T32 t252 x6_1).f3))).setCell ⟨gb276, 4, none⟩ (.int .u64 ((rd_T32 t252 x6_1).f4))).setCell ⟨gb276, 5, none⟩ (.int .u64 ((rd_T32 t252 x6_1).f5))).setCell ⟨gb276, 6, none⟩ (.int .u64 ((rd_T32 t252 x6_1).f6))).heap[gb270]? = some (.cells #[.int .u16 t251, .slice (some ad275) t252.length co8, .int .u32 t255, .int .u32 t256, .int .u64 t257, .int .u64 t258, .int .u64 t259, .int .u64 t260, .int .u64 t261, .int .u32 t262, .int .u32 t263, .int .u64 t264, .int .u64 t265, .int .u64 t266, .int .u64 t267, .int .u64 t268] 37 (0, 0))) := ⟨by (with_reducible repeat (first | refine blk_drewN ?_ _ | refine blk_drew ?_ | refine blk_alloc ?_ _)); refine blk_far ?_ NB270_276.out _; (with_reducible repeat (first | refine blk_drewN ?_ _ | refine blk_drew ?_ | refine blk_alloc ?_ _)); refine blk_far ?_ NB270_276.out _; (with_reducible repeat (first | refine blk_drewN ?_ _ | refine blk_drew ?_ | refine blk_alloc ?_ _)); refine blk_far ?_ NB270_276.out _; (with_reducible repeat (first | refine blk_drewN ?_ _ | refine blk_drew ?_ | refine blk_alloc ?_ _)); refine blk_far ?_ NB270_276.out _; (with_reducible repeat (first | refine blk_drewN ?_ _ | refine blk_drew ?_ | refine blk_alloc ?_ _)); refine blk_far ?_ NB270_276.out _; (with_reducible repeat (first | refine blk_drewN ?_ _ | refine blk_drew ?_ | refine blk_alloc ?_ _)); refine blk_far ?_ NB270_276.out _; (with_reducible repeat (first | refine blk_drewN ?_ _ | refine blk_drew ?_ | refine blk_alloc ?_ _)); refine blk_far ?_ NB270_276.out _; (with_reducible repeat (first | refine blk_drewN ?_ _ | refine blk_drew ?_ | refine blk_alloc ?_ _)); exact BK270.out⟩
         have n2_ : Aside0 ((((((((w14.setCell ⟨gb276, 0, none⟩ (.int .u32 ((rd_T32 t252 x6_1).f0))).setCell ⟨gb276, 1, none⟩ (.int .u32 ((rd_T32 t252 x6_1).f1))).setCell ⟨gb276, 2, none⟩ (.int .u64 ((rd_T32 t252 x6_1).f2))).setCell ⟨gb276, 3, none⟩ (.int .u64 ((rd_T32 t252 x6_1).f3))).setCell ⟨gb276, 4, none⟩ (.int .u64 ((rd_T32 t252 x6_1).f4))).setCell ⟨gb276, 5, none⟩ (.int .u64 ((rd_T32 t252 x6_1).f5))).setCell ⟨gb276, 6, none⟩ (.int .u64 ((rd_T32 t252 x6_1).f6))).heap[gb276]? = some (.cells #[.int .u32 ((rd_T32 t252 x6_1).f0), .int .u32 ((rd_T32 t252 x6_1).f1), .int .u64 ((rd_T32 t252 x6_1).f2), .int .u64 ((rd_T32 t252 x6_1).f3), .int .u64 ((rd_T32 t252 x6_1).f4), .int .u64 ((rd_T32 t252 x6_1).f5), .int .u64 ((rd_T32 t252 x6_1).f6)] 32 (0, 0))) := ⟨by (with_reducible repeat (first | refine blk_drewN ?_ _ | refine blk_drew ?_ | refine blk_alloc ?_ _)); refine blk_put (cs := #[.int .u32 ((rd_T32 t252 x6_1).f0), .int .u32 ((rd_T32 t252 x6_1).f1), .int .u64 ((rd_T32 t252 x6_1).f2), .int .u64 ((rd_T32 t252 x6_1).f3), .int .u64 ((rd_T32 t252 x6_1).f4), .int .u64 ((rd_T32 t252 x6_1).f5), .int .u64 0]) ?_ 6 _ rfl; (with_reducible repeat (first | refine blk_drewN ?_ _ | refine blk_drew ?_ | refine blk_alloc ?_ _)); refine blk_put (cs := #[.int .u32 ((rd_T32 t252 x6_1).f0), .int .u32 ((rd_T32 t252 x6_1).f1), .int .u64 ((rd_T32 t252 x6_1).f2), .int .u64 ((rd_T32 t252 x6_1).f3), .int .u64 ((rd_T32 t252 x6_1).f4), .int .u64 0, .int .u64 0]) ?_ 5 _ rfl; (with_reducible repeat (first | refine blk_drewN ?_ _ | refine blk_drew ?_ | refine blk_alloc ?_ _)); refine blk_put (cs := #[.int .u32 ((rd_T32 t252 x6_1).f0), .int .u32 ((rd_T32 t252 x6_1).f1), .int .u64 ((rd_T32 t252 x6_1).f2), .int .u64 ((rd_T32 t252 x6_1).f3), .int .u64 0, .int .u64 0, .int .u64 0]) ?_ 4 _ rfl; (with_reducible repeat (first | refine blk_drewN ?_ _ | refine blk_drew ?_ | refine blk_alloc ?_ _)); refine blk_put (cs := #[.int .u32 ((rd_T32 t252 x6_1).f0), .int .u32 ((rd_T32 t252 x6_1).f1), .int .u64 ((rd_T32 t252 x6_1).f2), .int .u64 0, .int .u64 0, .int .u64 0, .int .u64 0]) ?_ 3 _ rfl; (with_reducible repeat (first | refine blk_drewN ?_ _ | refine blk_drew ?_ | refine blk_alloc ?_ _)); refine blk_put (cs := #[.int .u32 ((rd_T32 t252 x6_1).f0), .int .u32 ((rd_T32 t252 x6_1).f1), .int .u64 0, .int .u64 0, .int .u64 0, .int .u64 0, .int .u64 0]) ?_ 2 _ rfl; (with_reducible repeat (first | refine blk_drewN ?_ _ | refine blk_drew ?_ | refine blk_alloc ?_ _)); refine blk_put (cs := #[.int .u32 ((rd_T32 t252 x6_1).f0), .int .u32 0, .int .u64 0, .int .u64 0, .int .u64 0, .int .u64 0, .int .u64 0]) ?_ 1 _ rfl; (with_reducible repeat (first | refine blk_drewN ?_ _ | refine blk_drew ?_ | refine blk_alloc ?_ _)); refine blk_put (cs := #[.int .u32 0, .int .u32 0, .int .u64 0, .int .u64 0, .int .u64 0, .int .u64 0, .int .u64 0]) ?_ 0 _ rfl; (with_reducible repeat (first | refine blk_drewN ?_ _ | refine blk_drew ?_ | refine blk_alloc ?_ _)); exact BK276.out⟩
         have n3_ : Aside0 (Below w.heap.size w (((((((w14.setCell ⟨gb276, 0, none⟩ (.int .u32 ((rd_T32 t252 x6_1).f0))).setCell ⟨gb276, 1, none⟩ (.int .u32 ((rd_T32 t252 x6_1).f1))).setCell ⟨gb276, 2, none⟩ (.int .u64 ((rd_T32 t252 x6_1).f2))).setCell ⟨gb276, 3, none⟩ (.int .u64 ((rd_T32 t252 x6_1).f3))).setCell ⟨gb276, 4, none⟩ (.int .u64 ((rd_T32 t252 x6_1).f4))).setCell ⟨gb276, 5, none⟩ (.int .u64 ((rd_T32 t252 x6_1).f5))).setCell ⟨gb276, 6, none⟩ (.int .u64 ((rd_T32 t252 x6_1).f6)))) := ⟨by repeat (first | (with_reducible first | exact HB.out | apply below_alloc | apply pw_below_drewN | apply below_drew1 | refine below_set ?_ GE270.out | refine below_set ?_ GE276.out) | exact HB.out)⟩
         (try clear HO_271001)
         (try clear BK270)
         (try clear BK276)
         (try clear HB)
         generalize (((((((w14.setCell ⟨gb276, 0, none⟩ (.int .u32 ((rd_T32 t252 x6_1).f0))).setCell ⟨gb276, 1, none⟩ (.int .u32 ((rd_T32 t252 x6_1).f1))).setCell ⟨gb276, 2, none⟩ (.int .u64 ((rd_T32 t252 x6_1).f2))).setCell ⟨gb276, 3, none⟩ (.int .u64 ((rd_T32 t252 x6_1).f3))).setCell ⟨gb276, 4, none⟩ (.int .u64 ((rd_T32 t252 x6_1).f4))).setCell ⟨gb276, 5, none⟩ (.int .u64 ((rd_T32 t252 x6_1).f5))).setCell ⟨gb276, 6, none⟩ (.int .u64 ((rd_T32 t252 x6_1).f6))) = w18 at n0_ n1_ n2_ n3_ ⊢
         have HO_271001 := n0_
         have BK270 := n1_
         have BK276 := n2_
         have HB := n3_
         clear n0_ n1_ n2_ n3_
         have n0_ := Aside0.mk (Kd.R_drew HO_271001.out)
         have n1_ := Aside0.mk (blk_drew BK270.out)
         have n2_ := Aside0.mk (blk_drew BK276.out)
         have n3_ := Aside0.mk (below_drew1 HB.out)
         clear HO_271001
         clear BK270
         clear BK276
         clear HB
         have HO_271001 := n0_
         have BK270 := n1_
         have BK276 := n2_
         have HB := n3_
         clear n0_ n1_ n2_ n3_
         refine start_ (n := 37) (S := fun w' => w'.cell? ⟨gb276, 0, none⟩ = some (.int .u32 ((rd_T32 t252 x6_1).f0)) ∧ w'.cell? ⟨gb276, 1, none⟩ = some (.int .u32 ((rd_T32 t252 x6_1).f1)) ∧ w'.cell? ⟨gb276, 2, none⟩ = some (.int .u64 ((rd_T32 t252 x6_1).f2)) ∧ w'.cell? ⟨gb276, 3, none⟩ = some (.int .u64 ((rd_T32 t252 x6_1).f3)) ∧ w'.cell? ⟨gb276, 4, none⟩ = some (.int .u64 ((rd_T32 t252 x6_1).f4)) ∧ w'.cell? ⟨gb276, 5, none⟩ = some (.int .u64 ((rd_T32 t252 x6_1).f5)) ∧ w'.cell? ⟨gb276, 6, none⟩ = some (.int .u64 ((rd_T32 t252 x6_1).f6))) (ds := []) #[false, false, false, false, false, false, false, false, false, false, false, false, false, false, false, false, false, false, false, false, false, false, false, false, false, false, false, false, false, false, false, false, false, false, false, false, false] (by kernel_rfl) rfl rfl ⟨(blk_cell BK276.out 0).trans rfl, (blk_cell BK276.out 1).trans rfl, (blk_cell BK276.out 2).trans rfl, (blk_cell BK276.out 3).trans rfl, (blk_cell BK276.out 4).trans rfl, (blk_cell BK276.out 5).trans rfl, (blk_cell BK276.out 6).trans rfl⟩ (fun hHeld => ?_); refine with_tabW messuagelaw08_HeadApart.tab11 messuagelaw08_HeadApart.bits11 (fun HT_ HW_ => ?_)
         generalize w18.drew = w19 at HO_271001 BK270 BK276 HB hHeld ⊢
         refine pure_ (i := 0) (N := some 37) (v := ?_) (a' := ?_) #[true, false, false, false, false, false, false, false, false, false, false, false, false, false, false, false, false, false, false, false, false, false, false, false, false, false, false, false, false, false, false, false, false, false, false, false, false] rfl rfl (any_of HT_.out (by kernel_rfl)) (fun _ _ _ h => h) (Or.inl ⟨by rfl, ?_⟩) ?_ ?_
         rotate_left
         ·
          intro w'
          go_simp
          with_reducible rfl
         rotate_left
         ·
          simp only [Act.put, List.setIfInBounds_toArray, List.set_cons_zero, List.set_cons_succ, i64_w, i32_w]
          rfl
         refine pure_ (i := 2) (N := some 39) (v := ?_) (a' := ?_) #[true, false, true, false, false, false, false, false, false, false, false, false, false, false, false, false, false, false, false, false, false, false, false, false, false, false, false, false, false, false, false, false, false, false, false, false, false] rfl rfl (any_of HT_.out (by kernel_rfl)) (fun _ _ _ h => h) (Or.inl ⟨by rfl, ?_⟩) ?_ ?_
         rotate_left
         ·
          intro w'
          go_simp
          with_reducible rfl
         rotate_left
         ·
          simp only [Act.put, List.setIfInBounds_toArray, List.set_cons_zero, List.set_cons_succ, i64_w, i32_w]
          rfl
         refine take_ (i := 1) (N := some 38) (v := ?_) (a' := ?_) #[true, true, true, false, false, false, false, false, false, false, false, false, false, false, false, false, false, false, false, false, false, false, false, false, false, false, false, false, false, false, false, false, false, false, false, false, false] rfl rfl (take_ofW HT_.out HW_.out (by kernel_rfl)) (fun _ _ _ h => h) (Or.inl ⟨by rfl, ?_⟩) hHeld ?_ ?_
         rotate_left
         ·
          rintro w' ⟨s0, s1, s2, s3, s4, s5, s6⟩
          go_simp
          with_reducible rfl
         rotate_left
         ·
          simp only [Act.put, List.setIfInBounds_toArray, List.set_cons_zero, List.set_cons_succ, i64_w, i32_w]
          rfl
         refine pure_ (i := 3) (N := some 40) (v := ?_) (a' := ?_) #[true, true, true, true, false, false, false, false, false, false, false, false, false, false, false, false, false, false, false, false, false, false, false, false, false, false, false, false, false, false, false, false, false, false, false, false, false] rfl rfl (any_of HT_.out (by kernel_rfl)) (fun _ _ _ h => h) (Or.inl ⟨by rfl, ?_⟩) ?_ ?_
         rotate_left
         ·
          intro w'
          go_simp
          with_reducible rfl
         rotate_left
         ·
          simp only [Act.put, List.setIfInBounds_toArray, List.set_cons_zero, List.set_cons_succ, i64_w, i32_w]
          rfl
         refine pure_ (i := 4) (N := some 41) (v := ?_) (a' := ?_) #[true, true, true, true, true, false, false, false, false, false, false, false, false, false, false, false, false, false, false, false, false, false, false, false, false, false, false, false, false, false, false, false, false, false, false, false, false] rfl rfl (any_of HT_.out (by kernel_rfl)) (fun _ _ _ h => h) (Or.inl ⟨by rfl, ?_⟩) ?_ ?_
         rotate_left
         ·
          intro w'
          go_simp
          with_reducible rfl
         rotate_left
         ·
          simp only [Act.put, List.setIfInBounds_toArray, List.set_cons_zero, List.set_cons_succ, i64_w, i32_w]
          rfl
         refine pure_ (i := 5) (N := some 42) (v := undef) (a' := ?_) #[true, true, true, true, true, true, false, false, false, false, false, false, false, false, false, false, false, false, false, false, false, false, false, false, false, false, false, false, false, false, false, false, false, false, false, false, false] rfl rfl (any_of HT_.out (by kernel_rfl)) (fun _ _ _ h => h) (Or.inr ⟨by rfl, rfl⟩) ?_ ?_
         rotate_left
         ·
          simp only [Act.put, List.setIfInBounds_toArray, List.set_cons_zero, List.set_cons_succ, i64_w, i32_w]
          rfl
         refine pure_ (i := 6) (N := some 43) (v := undef) (a' := ?_) #[true, true, true, true, true, true, true, false, false, false, false, false, false, false, false, false, false, false, false, false, false, false, false, false, false, false, false, false, false, false, false, false, false, false, false, false, false] rfl rfl (any_of HT_.out (by kernel_rfl)) (fun _ _ _ h => h) (Or.inr ⟨by rfl, rfl⟩) ?_ ?_
         rotate_left
         ·
          simp only [Act.put, List.setIfInBounds_toArray, List.set_cons_zero, List.set_cons_succ, i64_w, i32_w]
          rfl
         refine pure_ (i := 7) (N := some 44) (v := undef) (a' := ?_) #[true, true, true, true, true, true, true, true, false, false, false, false, false, false, false, false, false, false, false, false, false, false, false, false, false, false, false, false, false, false, false, false, false, false, false, false, false] rfl rfl (any_of HT_.out (by kernel_rfl)) (fun _ _ _ h => h) (Or.inr ⟨by rfl, rfl⟩) ?_ ?_
         rotate_left
         ·
          simp only [Act.put, List.setIfInBounds_toArray, List.set_cons_zero, List.set_cons_succ, i64_w, i32_w]
          rfl
         refine pure_ (i := 8) (N := some 45) (v := undef) (a' := ?_) #[true, true, true, true, true, true, true, true, true, false, false, false, false, false, false, false, false, false, false, false, false, false, false, false, false, false, false, false, false, false, false, false, false, false, false, false, false] rfl rfl (any_of HT_.out (by kernel_rfl)) (fun _ _ _ h => h) (Or.inr ⟨by rfl, rfl⟩) ?_ ?_
         rotate_left
         ·
          simp only [Act.put, List.setIfInBounds_toArray, List.set_cons_zero, List.set_cons_succ, i64_w, i32_w]
          rfl
         refine pure_ (i := 9) (N := some 46) (v := ?_) (a' := ?_) #[true, true, true, true, true, true, true, true, true, true, false, false, false, false, false, false, false, false, false, false, false, false, false, false, false, false, false, false, false, false, false, false, false, false, false, false, false] rfl rfl (any_of HT_.out (by kernel_rfl)) (fun _ _ _ h => h) (Or.inl ⟨by rfl, ?_⟩) ?_ ?_
         rotate_left
         ·
          intro w'
          go_simp
          with_reducible rfl
         rotate_left
         ·
          simp only [Act.put, List.setIfInBounds_toArray, List.set_cons_zero, List.set_cons_succ, i64_w, i32_w]
          rfl
         refine pure_ (i := 10) (N := some 47) (v := ?_) (a' := ?_) #[true, true, true, true, true, true, true, true, true, true, true, false, false, false, false, false, false, false, false, false, false, false, false, false, false, false, false, false, false, false, false, false, false, false, false, false, false] rfl rfl (any_of HT_.out (by kernel_rfl)) (fun _ _ _ h => h) (Or.inl ⟨by rfl, ?_⟩) ?_ ?_
         rotate_left
         ·
          intro w'
          go_simp
          with_reducible rfl
         rotate_left
         ·
          simp only [Act.put, List.setIfInBounds_toArray, List.set_cons_zero, List.set_cons_succ, i64_w, i32_w]
          rfl
         refine pure_ (i := 11) (N := some 48) (v := undef) (a' := ?_) #[true, true, true, true, true, true, true, true, true, true, true, true, false, false, false, false, false, false, false, false, false, false, false, false, false, false, false, false, false, false, false, false, false, false, false, false, false] rfl rfl (any_of HT_.out (by kernel_rfl)) (fun _ _ _ h => h) (Or.inr ⟨by rfl, rfl⟩) ?_ ?_
         rotate_left
         ·
          simp only [Act.put, List.setIfInBounds_toArray, List.set_cons_zero, List.set_cons_succ, i64_w, i32_w]
          rfl
         refine pure_ (i := 12) (N := some 49) (v := undef) (a' := ?_) #[true, true, true, true, true, true, true, true, true, true, true, true, true, false, false, false, false, false, false, false, false, false, false, false, false, false, false, false, false, false, false, false, false, false, false, false, false] rfl rfl (any_of HT_.out (by kernel_rfl)) (fun _ _ _ h => h) (Or.inr ⟨by rfl, rfl⟩) ?_ ?_
         rotate_left
         ·
          simp only [Act.put, List.setIfInBounds_toArray, List.set_cons_zero, List.set_cons_succ, i64_w, i32_w]
          rfl
         refine pure_ (i := 13) (N := some 50) (v := undef) (a' := ?_) #[true, true, true, true, true, true, true, true, true, true, true, true, true, true, false, false, false, false, false, false, false, false, false, false, false, false, false, false, false, false, false, false, false, false, false, false, false] rfl rfl (any_of HT_.out (by kernel_rfl)) (fun _ _ _ h => h) (Or.inr ⟨by rfl, rfl⟩) ?_ ?_
         rotate_left
         ·
          simp only [Act.put, List.setIfInBounds_toArray, List.set_cons_zero, List.set_cons_succ, i64_w, i32_w]
          rfl
         refine pure_ (i := 14) (N := some 51) (v := undef) (a' := ?_) #[true, true, true, true, true, true, true, true, true, true, true, true, true, true, true, false, false, false, false, false, false, false, false, false, false, false, false, false, false, false, false, false, false, false, false, false, false] rfl rfl (any_of HT_.out (by kernel_rfl)) (fun _ _ _ h => h) (Or.inr ⟨by rfl, rfl⟩) ?_ ?_
         rotate_left
         ·
          simp only [Act.put, List.setIfInBounds_toArray, List.set_cons_zero, List.set_cons_succ, i64_w, i32_w]
          rfl
         refine pure_ (i := 15) (N := some 52) (v := ?_) (a' := ?_) #[true, true, true, true, true, true, true, true, true, true, true, true, true, true, true, true, false, false, false, false, false, false, false, false, false, false, false, false, false, false, false, false, false, false, false, false, false] rfl rfl (any_of HT_.out (by kernel_rfl)) (fun _ _ _ h => h) (Or.inl ⟨by rfl, ?_⟩) ?_ ?_
         rotate_left
         ·
          intro w'
          go_simp
          with_reducible rfl
         rotate_left
         ·
          simp only [Act.put, List.setIfInBounds_toArray, List.set_cons_zero, List.set_cons_succ, i64_w, i32_w]
          rfl
         refine pure_ (i := 16) (N := some 53) (v := ?_) (a' := ?_) #[true, true, true, true, true, true, true, true, true, true, true, true, true, true, true, true, true, false, false, false, false, false, false, false, false, false, false, false, false, false, false, false, false, false, false, false, false] rfl rfl (any_of HT_.out (by kernel_rfl)) (fun _ _ _ h => h) (Or.inl ⟨by rfl, ?_⟩) ?_ ?_
         rotate_left
         ·
          intro w'
          go_simp
          with_reducible rfl
         rotate_left
         ·
          simp only [Act.put, List.setIfInBounds_toArray, List.set_cons_zero, List.set_cons_succ, i64_w, i32_w]
          rfl
         refine pure_ (i := 17) (N := some 54) (v := undef) (a' := ?_) #[true, true, true, true, true, true, true, true, true, true, true, true, true, true, true, true, true, true, false, false, false, false, false, false, false, false, false, false, false, false, false, false, false, false, false, false, false] rfl rfl (any_of HT_.out (by kernel_rfl)) (fun _ _ _ h => h) (Or.inr ⟨by rfl, rfl⟩) ?_ ?_
         rotate_left
         ·
          simp only [Act.put, List.setIfInBounds_toArray, List.set_cons_zero, List.set_cons_succ, i64_w, i32_w]
          rfl
         refine pure_ (i := 18) (N := some 55) (v := undef) (a' := ?_) #[true, true, true, true, true, true, true, true, true, true, true, true, true, true, true, true, true, true, true, false, false, false, false, false, false, false, false, false, false, false, false, false, false, false, false, false, false] rfl rfl (any_of HT_.out (by kernel_rfl)) (fun _ _ _ h => h) (Or.inr ⟨by rfl, rfl⟩) ?_ ?_
         rotate_left
         ·
          simp only [Act.put, List.setIfInBounds_toArray, List.set_cons_zero, List.set_cons_succ, i64_w, i32_w]
          rfl
         refine pure_ (i := 19) (N := some 56) (v := undef) (a' := ?_) #[true, true, true, true, true, true, true, true, true, true, true, true, true, true, true, true, true, true, true, true, false, false, false, false, false, false, false, false, false, false, false, false, false, false, false, false, false] rfl rfl (any_of HT_.out (by kernel_rfl)) (fun _ _ _ h => h) (Or.inr ⟨by rfl, rfl⟩) ?_ ?_
         rotate_left
         ·
          simp only [Act.put, List.setIfInBounds_toArray, List.set_cons_zero, List.set_cons_succ, i64_w, i32_w]
          rfl
         refine pure_ (i := 20) (N := some 57) (v := undef) (a' := ?_) #[true, true, true, true, true, true, true, true, true, true, true, true, true, true, true, true, true, true, true, true, true, false, false, false, false, false, false, false, false, false, false, false, false, false, false, false, false] rfl rfl (any_of HT_.out (by kernel_rfl)) (fun _ _ _ h => h) (Or.inr ⟨by rfl, rfl⟩) ?_ ?_
         rotate_left
         ·
          simp only [Act.put, List.setIfInBounds_toArray, List.set_cons_zero, List.set_cons_succ, i64_w, i32_w]
          rfl
         refine pure_ (i := 21) (N := some 58) (v := undef) (a' := ?_) #[true, true, true, true, true, true, true, true, true, true, true, true, true, true, true, true, true, true, true, true, true, true, false, false, false, false, false, false, false, false, false, false, false, false, false, false, false] rfl rfl (any_of HT_.out (by kernel_rfl)) (fun _ _ _ h => h) (Or.inr ⟨by rfl, rfl⟩) ?_ ?_
         rotate_left
         ·
          simp only [Act.put, List.setIfInBounds_toArray, List.set_cons_zero, List.set_cons_succ, i64_w, i32_w]
          rfl
         refine pure_ (i := 22) (N := some 59) (v := undef) (a' := ?_) #[true, true, true, true, true, true, true, true, true, true, true, true, true, true, true, true, true, true, true, true, true, true, true, false, false, false, false, false, false, false, false, false, false, false, false, false, false] rfl rfl (any_of HT_.out (by kernel_rfl)) (fun _ _ _ h => h) (Or.inr ⟨by rfl, rfl⟩) ?_ ?_
         rotate_left
         ·
          simp only [Act.put, List.setIfInBounds_toArray, List.set_cons_zero, List.set_cons_succ, i64_w, i32_w]
          rfl
         refine pure_ (i := 23) (N := some 60) (v := undef) (a' := ?_) #[true, true, true, true, true, true, true, true, true, true, true, true, true, true, true, true, true, true, true, true, true, true, true, true, false, false, false, false, false, false, false, false, false, false, false, false, false] rfl rfl (any_of HT_.out (by kernel_rfl)) (fun _ _ _ h => h) (Or.inr ⟨by rfl, rfl⟩) ?_ ?_
         rotate_left
         ·
          simp only [Act.put, List.setIfInBounds_toArray, List.set_cons_zero, List.set_cons_succ, i64_w, i32_w]
          rfl
         refine pure_ (i := 24) (N := some 61) (v := undef) (a' := ?_) #[true, true, true, true, true, true, true, true, true, true, true, true, true, true, true, true, true, true, true, true, true, true, true, true, true, false, false, false, false, false, false, false, false, false, false, false, false] rfl rfl (any_of HT_.out (by kernel_rfl)) (fun _ _ _ h => h) (Or.inr ⟨by rfl, rfl⟩) ?_ ?_
         rotate_left
         ·
          simp only [Act.put, List.setIfInBounds_toArray, List.set_cons_zero, List.set_cons_succ, i64_w, i32_w]
          rfl
         refine pure_ (i := 25) (N := some 62) (v := ?_) (a' := ?_) #[true, true, true, true, true, true, true, true, true, true, true, true, true, true, true, true, true, true, true, true, true, true, true, true, true, true, false, false, false, false, false, false, false, false, false, false, false] rfl rfl (any_of HT_.out (by kernel_rfl)) (fun _ _ _ h => h) (Or.inl ⟨by rfl, ?_⟩) ?_ ?_
         rotate_left
         ·
          intro w'
          go_simp
          with_reducible rfl
         rotate_left
         ·
          simp only [Act.put, List.setIfInBounds_toArray, List.set_cons_zero, List.set_cons_succ, i64_w, i32_w]
          rfl
         refine pure_ (i := 26) (N := some 63) (v := ?_) (a' := ?_) #[true, true, true, true, true, true, true, true, true, true, true, true, true, true, true, true, true, true, true, true, true, true, true, true, true, true, true, false, false, false, false, false, false, false, false, false, false] rfl rfl (any_of HT_.out (by kernel_rfl)) (fun _ _ _ h => h) (Or.inl ⟨by rfl, ?_⟩) ?_ ?_
         rotate_left
         ·
          intro w'
          go_simp
          with_reducible rfl
         rotate_left
         ·
          simp only [Act.put, List.setIfInBounds_toArray, List.set_cons_zero, List.set_cons_succ, i64_w, i32_w]
          rfl
         refine pure_ (i := 27) (N := some 64) (v := undef) (a' := ?_) #[true, true, true, true, true, true, true, true, true, true, true, true, true, true, true, true, true, true, true, true, true, true, true, true, true, true, true, true, false, false, false, false, false, false, false, false, false] rfl rfl (any_of HT_.out (by kernel_rfl)) (fun _ _ _ h => h) (Or.inr ⟨by rfl, rfl⟩) ?_ ?_
         rotate_left
         ·
          simp only [Act.put, List.setIfInBounds_toArray, List.set_cons_zero, List.set_cons_succ, i64_w, i32_w]
          rfl
         refine pure_ (i := 28) (N := some 65) (v := undef) (a' := ?_) #[true, true, true, true, true, true, true, true, true, true, true, true, true, true, true, true, true, true, true, true, true, true, true, true, true, true, true, true, true, false, false, false, false, false, false, false, false] rfl rfl (any_of HT_.out (by kernel_rfl)) (fun _ _ _ h => h) (Or.inr ⟨by rfl, rfl⟩) ?_ ?_
         rotate_left
         ·
          simp only [Act.put, List.setIfInBounds_toArray, List.set_cons_zero, List.set_cons_succ, i64_w, i32_w]
          rfl
         refine pure_ (i := 29) (N := some 66) (v := undef) (a' := ?_) #[true, true, true, true, true, true, true, true, true, true, true, true, true, true, true, true, true, true, true, true, true, true, true, true, true, true, true, true, true, true, false, false, false, false, false, false, false] rfl rfl (any_of HT_.out (by kernel_rfl)) (fun _ _ _ h => h) (Or.inr ⟨by rfl, rfl⟩) ?_ ?_
         rotate_left
         ·
          simp only [Act.put, List.setIfInBounds_toArray, List.set_cons_zero, List.set_cons_succ, i64_w, i32_w]
          rfl
         refine pure_ (i := 30) (N := some 67) (v := undef) (a' := ?_) #[true, true, true, true, true, true, true, true, true, true, true, true, true, true, true, true, true, true, true, true, true, true, true, true, true, true, true, true, true, true, true, false, false, false, false, false, false] rfl rfl (any_of HT_.out (by kernel_rfl)) (fun _ _ _ h => h) (Or.inr ⟨by rfl, rfl⟩) ?_ ?_
         rotate_left
         ·
          simp only [Act.put, List.setIfInBounds_toArray, List.set_cons_zero, List.set_cons_succ, i64_w, i32_w]
          rfl
         refine pure_ (i := 31) (N := some 68) (v := undef) (a' := ?_) #[true, true, true, true, true, true, true, true, true, true, true, true, true, true, true, true, true, true, true, true, true, true, true, true, true, true, true, true, true, true, true, true, false, false, false, false, false] rfl rfl (any_of HT_.out (by kernel_rfl)) (fun _ _ _ h => h) (Or.inr ⟨by rfl, rfl⟩) ?_ ?_
         rotate_left
         ·
          simp only [Act.put, List.setIfInBounds_toArray, List.set_cons_zero, List.set_cons_succ, i64_w, i32_w]
          rfl
         refine pure_ (i := 32) (N := some 69) (v := undef) (a' := ?_) #[true, true, true, true, true, true, true, true, true, true, true, true, true, true, true, true, true, true, true, true, true, true, true, true, true, true, true, true, true, true, true, true, true, false, false, false, false] rfl rfl (any_of HT_.out (by kernel_rfl)) (fun _ _ _ h => h) (Or.inr ⟨by rfl, rfl⟩) ?_ ?_
         rotate_left
         ·
          simp only [Act.put, List.setIfInBounds_toArray, List.set_cons_zero, List.set_cons_succ, i64_w, i32_w]
          rfl
         refine pure_ (i := 33) (N := some 70) (v := undef) (a' := ?_) #[true, true, true, true, true, true, true, true, true, true, true, true, true, true, true, true, true, true, true, true, true, true, true, true, true, true, true, true, true, true, true, true, true, true, false, false, false] rfl rfl (any_of HT_.out (by kernel_rfl)) (fun _ _ _ h => h) (Or.inr ⟨by rfl, rfl⟩) ?_ ?_
         rotate_left
         ·
          simp only [Act.put, List.setIfInBounds_toArray, List.set_cons_zero, List.set_cons_succ, i64_w, i32_w]
          rfl
         refine pure_ (i := 34) (N := some 71) (v := undef) (a' := ?_) #[true, true, true, true, true, true, true, true, true, true, true, true, true, true, true, true, true, true, true, true, true, true, true, true, true, true, true, true, true, true, true, true, true, true, true, false, false] rfl rfl (any_of HT_.out (by kernel_rfl)) (fun _ _ _ h => h) (Or.inr ⟨by rfl, rfl⟩) ?_ ?_
         rotate_left
         ·
          simp only [Act.put, List.setIfInBounds_toArray, List.set_cons_zero, List.set_cons_succ, i64_w, i32_w]
          rfl
         refine pure_ (i := 35) (N := some 72) (v := undef) (a' := ?_) #[true, true, true, true, true, true, true, true, true, true, true, true, true, true, true, true, true, true, true, true, true, true, true, true, true, true, true, true, true, true, true, true, true, true, true, true, false] rfl rfl (any_of HT_.out (by kernel_rfl)) (fun _ _ _ h => h) (Or.inr ⟨by rfl, rfl⟩) ?_ ?_
         rotate_left
         ·
          simp only [Act.put, List.setIfInBounds_toArray, List.set_cons_zero, List.set_cons_succ, i64_w, i32_w]
          rfl
         refine pure_ (i := 36) (N := some 73) (v := ?_) (a' := ?_) #[true, true, true, true, true, true, true, true, true, true, true, true, true, true, true, true, true, true, true, true, true, true, true, true, true, true, true, true, true, true, true, true, true, true, true, true, true] rfl rfl (any_of HT_.out (by kernel_rfl)) (fun _ _ _ h => h) (Or.inl ⟨by rfl, ?_⟩) ?_ ?_
         rotate_left
         ·
          intro w'
          go_simp
          with_reducible rfl
         rotate_left
         ·
          simp only [Act.put, List.setIfInBounds_toArray, List.set_cons_zero, List.set_cons_succ, i64_w, i32_w]
          rfl
         refine done_ (done_of HT_.out (by kernel_rfl)) ?_
         try go_wp2
         go_meet
         case rel => exact ⟨_, (true), (by first | rfl | (simp; done) | (simp [*]; done)), H', ⟨by have := HK1.out; first | omega | exact Nat.le_refl _⟩, ⟨by (with_reducible repeat (first | apply Kd.R_alloc | apply Kd.R_drewN | apply Kd.R_drew)); first | exact HO_271001.out | exact Kd.R_mono HO_271001.out (fun k_ hk_ => own_len hk_)⟩, ⟨by (with_reducible repeat (first | refine blk_drewN ?_ _ | refine blk_drew ?_ | refine blk_alloc ?_ _)); exact BK270.out⟩, ⟨by (with_reducible repeat (first | refine blk_drewN ?_ _ | refine blk_drew ?_ | refine blk_alloc ?_ _)); exact BK276.out⟩, ⟨by repeat (first | (with_reducible first | exact HB.out | apply below_alloc | apply pw_below_drewN | apply below_drew1 | refine below_set ?_ GE270.out | refine below_set ?_ GE276.out) | exact HB.out)⟩⟩
        ·
         rw [if_neg c17] at H
         have c17b0 : decide (((rd_T32 t252 x6_1).f3) < x5_1) = false := decide_eq_false c17
         clear c17
         (first | rw [c17b0] | (simp only [i64_w, i32_w]; rw [c17b0]) | skip)
         by_cases c20 : (Int.tmod ((rd_T32 t252 x6_1).f3) 256) = 0
         ·
          rw [if_pos c20] at H
          have c20b0 : ((Int.tmod ((rd_T32 t252 x6_1).f3) 256) == 0) = true := beq_iff_eq.mpr c20
          have c20b1 : ((Int.tmod ((rd_T32 t252 x6_1).f3) 256) != 0) = false := bne_eq_false_iff_eq.mpr c20
          clear c20
          replace H := Option.bind_eq_some_iff.mp H
          obtain ⟨t277, A210, H⟩ := H
          replace H : (if (Int.tmod t277 256) = 0 then ((head_End.f ((rd_T32 t252 x6_1).f0) ((rd_T32 t252 x6_1).f1) ((rd_T32 t252 x6_1).f2) ((rd_T32 t252 x6_1).f3) ((rd_T32 t252 x6_1).f4) ((rd_T32 t252 x6_1).f5) ((rd_T32 t252 x6_1).f6)).bind fun t278 => (if (IntKind.u64.wrap (t278 - ((rd_T32 t252 x6_1).f3))) < ((rd_T32 t252 x6_1).f5) then (messuagelaw08_HeadApart.j1 k1 l0 x6_1 true t251 t252 t255 t256 t257 t258 t259 t260 t261 t262 t263 t264 t265 t266 t267 t268 ((rd_T32 t252 x6_1).f0) ((rd_T32 t252 x6_1).f1) ((rd_T32 t252 x6_1).f2) ((rd_T32 t252 x6_1).f3) ((rd_T32 t252 x6_1).f4) ((rd_T32 t252 x6_1).f5) ((rd_T32 t252 x6_1).f6)) else ((head_End.f ((rd_T32 t252 x6_1).f0) ((rd_T32 t252 x6_1).f1) ((rd_T32 t252 x6_1).f2) ((rd_T32 t252 x6_1).f3) ((rd_T32 t252 x6_1).f4) ((rd_T32 t252 x6_1).f5) ((rd_T32 t252 x6_1).f6)).bind fun t279 => (messuagelaw08_HeadApart.j1 k1 l0 x6_1 (decide ((IntKind.u64.wrap ((IntKind.u64.wrap (t279 - ((rd_T32 t252 x6_1).f3))) - ((rd_T32 t252 x6_1).f5))) ≥ 256)) t251 t252 t255 t256 t257 t258 t259 t260 t261 t262 t263 t264 t265 t266 t267 t268 ((rd_T32 t252 x6_1).f0) ((rd_T32 t252 x6_1).f1) ((rd_T32 t252 x6_1).f2) ((rd_T32 t252 x6_1).f3) ((rd_T32 t252 x6_1).f4) ((rd_T32 t252 x6_1).f5) ((rd_T32 t252 x6_1).f6))))) else (messuagelaw08_HeadApart.j1 k1 l0 x6_1 true t251 t252 t255 t256 t257 t258 t259 t260 t261 t262 t263 t264 t265 t266 t267 t268 ((rd_T32 t252 x6_1).f0) ((rd_T32 t252 x6_1).f1) ((rd_T32 t252 x6_1).f2) ((rd_T32 t252 x6_1).f3) ((rd_T32 t252 x6_1).f4) ((rd_T32 t252 x6_1).f5) ((rd_T32 t252 x6_1).f6))) = some r := H
          have A21 := Aside0.mk A210
          clear A210
          by_cases c22 : (Int.tmod t277 256) = 0
          ·
           rw [if_pos c22] at H
           have c22b0 : ((Int.tmod t277 256) == 0) = true := beq_iff_eq.mpr c22
           have c22b1 : ((Int.tmod t277 256) != 0) = false := bne_eq_false_iff_eq.mpr c22
           clear c22
           replace H := Option.bind_eq_some_iff.mp H
           obtain ⟨t278, A230, H⟩ := H
           replace H : (if (IntKind.u64.wrap (t278 - ((rd_T32 t252 x6_1).f3))) < ((rd_T32 t252 x6_1).f5) then (messuagelaw08_HeadApart.j1 k1 l0 x6_1 true t251 t252 t255 t256 t257 t258 t259 t260 t261 t262 t263 t264 t265 t266 t267 t268 ((rd_T32 t252 x6_1).f0) ((rd_T32 t252 x6_1).f1) ((rd_T32 t252 x6_1).f2) ((rd_T32 t252 x6_1).f3) ((rd_T32 t252 x6_1).f4) ((rd_T32 t252 x6_1).f5) ((rd_T32 t252 x6_1).f6)) else ((head_End.f ((rd_T32 t252 x6_1).f0) ((rd_T32 t252 x6_1).f1) ((rd_T32 t252 x6_1).f2) ((rd_T32 t252 x6_1).f3) ((rd_T32 t252 x6_1).f4) ((rd_T32 t252 x6_1).f5) ((rd_T32 t252 x6_1).f6)).bind fun t279 => (messuagelaw08_HeadApart.j1 k1 l0 x6_1 (decide ((IntKind.u64.wrap ((IntKind.u64.wrap (t279 - ((rd_T32 t252 x6_1).f3))) - ((rd_T32 t252 x6_1).f5))) ≥ 256)) t251 t252 t255 t256 t257 t258 t259 t260 t261 t262 t263 t264 t265 t266 t267 t268 ((rd_T32 t252 x6_1).f0) ((rd_T32 t252 x6_1).f1) ((rd_T32 t252 x6_1).f2) ((rd_T32 t252 x6_1).f3) ((rd_T32 t252 x6_1).f4) ((rd_T32 t252 x6_1).f5) ((rd_T32 t252 x6_1).f6)))) = some r := H
           have A23 := Aside0.mk A230
           clear A230
           by_cases c24 : (IntKind.u64.wrap (t278 - ((rd_T32 t252 x6_1).f3))) < ((rd_T32 t252 x6_1).f5)
           ·
            rw [if_pos c24] at H
            have c24b0 : decide ((IntKind.u64.wrap (t278 - ((rd_T32 t252 x6_1).f3))) < ((rd_T32 t252 x6_1).f5)) = true := decide_eq_true c24
            clear c24
            have H' := Aside0.mk H
            clear H
            try go_wp2
            have n0_ : Aside0 (Kd.R k32 32 (((((((w14.setCell ⟨gb276, 0, none⟩ (.int .u32 ((rd_T32 t252 x6_1).f0))).setCell ⟨gb276, 1, none⟩ (.int .u32 ((rd_T32 t252 x6_1).f1))).setCell ⟨gb276, 2, none⟩ (.int .u64 ((rd_T32 t252 x6_1).f2))).setCell ⟨gb276, 3, none⟩ (.int .u64 ((rd_T32 t252 x6_1).f3))).setCell ⟨gb276, 4, none⟩ (.int .u64 ((rd_T32 t252 x6_1).f4))).setCell ⟨gb276, 5, none⟩ (.int .u64 ((rd_T32 t252 x6_1).f5))).setCell ⟨gb276, 6, none⟩ (.int .u64 ((rd_T32 t252 x6_1).f6))) w.heap.size (fun k_ => k_ ≠ gb276) (.slice (some ad275) t252.length co8) t252) := ⟨by (with_reducible repeat (first | apply Kd.R_alloc | apply Kd.R_drewN | apply Kd.R_drew)); exact Kd.R_mono (Kd.R_far (p := ⟨gb276, 6, none⟩) (Kd.R_far (p := ⟨gb276, 5, none⟩) (Kd.R_far (p := ⟨gb276, 4, none⟩) (Kd.R_far (p := ⟨gb276, 3, none⟩) (Kd.R_far (p := ⟨gb276, 2, none⟩) (Kd.R_far (p := ⟨gb276, 1, none⟩) (Kd.R_far (p := ⟨gb276, 0, none⟩) (Kd.R_mono HO_271001.out (fun k_ hk => (⟨hk, hk.2⟩ : _ ∧ k_ ≠ gb276))) (fun _ hk => hk.2) (.int .u32 ((rd_T32 t252 x6_1).f0))) (fun _ hk => hk.2) (.int .u32 ((rd_T32 t252 x6_1).f1))) (fun _ hk => hk.2) (.int .u64 ((rd_T32 t252 x6_1).f2))) (fun _ hk => hk.2) (.int .u64 ((rd_T32 t252 x6_1).f3))) (fun _ hk => hk.2) (.int .u64 ((rd_T32 t252 x6_1).f4))) (fun _ hk => hk.2) (.int .u64 ((rd_T32 t252 x6_1).f5))) (fun _ hk => hk.2) (.int .u64 ((rd_T32 t252 x6_1).f6))) (fun _ hk => hk.1.2)⟩
            have n1_ : Aside0 ((((((((w14.setCell ⟨gb276, 0, none⟩ (.int .u32 ((rd_T32 t252 x6_1).f0))).setCell ⟨gb276, 1, none⟩ (.int .u32 ((rd_T32 t252 x6_1).f1))).setCell ⟨gb276, 2, none⟩ (.int .u64 ((rd_T32 t252 x6_1).f2))).setCell ⟨gb276, 3, none⟩ (.int .u64 ((rd_T32 t252 x6_1).f3))).setCell ⟨gb276, 4, none⟩ (.int .u64 ((rd_T32 t252 x6_1).f4))).setCell ⟨gb276, 5, none⟩ (.int .u64 ((rd_T32 t252 x6_1).f5))).setCell ⟨gb276, 6, none⟩ (.int .u64 ((rd_T32 t252 x6_1).f6))).heap[gb270]? = some (.cells #[.int .u16 t251, .slice (some ad275) t252.length co8, .int .u32 t255, .int .u32 t256, .int .u64 t257, .int .u64 t258, .int .u64 t259, .int .u64 t260, .int .u64 t261, .int .u32 t262, .int .u32 t263, .int .u64 t264, .int .u64 t265, .int .u64 t266, .int .u64 t267, .int .u64 t268] 37 (0, 0))) := ⟨by (with_reducible repeat (first | refine blk_drewN ?_ _ | refine blk_drew ?_ | refine blk_alloc ?_ _)); refine blk_far ?_ NB270_276.out _; (with_reducible repeat (first | refine blk_drewN ?_ _ | refine blk_drew ?_ | refine blk_alloc ?_ _)); refine blk_far ?_ NB270_276.out _; (with_reducible repeat (first | refine blk_drewN ?_ _ | refine blk_drew ?_ | refine blk_alloc ?_ _)); refine blk_far ?_ NB270_276.out _; (with_reducible repeat (first | refine blk_drewN ?_ _ | refine blk_drew ?_ | refine blk_alloc ?_ _)); refine blk_far ?_ NB270_276.out _; (with_reducible repeat (first | refine blk_drewN ?_ _ | refine blk_drew ?_ | refine blk_alloc ?_ _)); refine blk_far ?_ NB270_276.out _; (with_reducible repeat (first | refine blk_drewN ?_ _ | refine blk_drew ?_ | refine blk_alloc ?_ _)); refine blk_far ?_ NB270_276.out _; (with_reducible repeat (first | refine blk_drewN ?_ _ | refine blk_drew ?_ | refine blk_alloc ?_ _)); refine blk_far ?_ NB270_276.out _; (with_reducible repeat (first | refine blk_drewN ?_ _ | refine blk_drew ?_ | refine blk_alloc ?_ _)); exact BK270.out⟩
            have n2_ : Aside0 ((((((((w14.setCell ⟨gb276, 0, none⟩ (.int .u32 ((rd_T32 t252 x6_1).f0))).setCell ⟨gb276, 1, none⟩ (.int .u32 ((rd_T32 t252 x6_1).f1))).setCell ⟨gb276, 2, none⟩ (.int .u64 ((rd_T32 t252 x6_1).f2))).setCell ⟨gb276, 3, none⟩ (.int .u64 ((rd_T32 t252 x6_1).f3))).setCell ⟨gb276, 4, none⟩ (.int .u64 ((rd_T32 t252 x6_1).f4))).setCell ⟨gb276, 5, none⟩ (.int .u64 ((rd_T32 t252 x6_1).f5))).setCell ⟨gb276, 6, none⟩ (.int .u64 ((rd_T32 t252 x6_1).f6))).heap[gb276]? = some (.cells #[.int .u32 ((rd_T32 t252 x6_1).f0), .int .u32 ((rd_T32 t252 x6_1).f1), .int .u64 ((rd_T32 t252 x6_1).f2), .int .u64 ((rd_T32 t252 x6_1).f3), .int .u64 ((rd_T32 t252 x6_1).f4), .int .u64 ((rd_T32 t252 x6_1).f5), .int .u64 ((rd_T32 t252 x6_1).f6)] 32 (0, 0))) := ⟨by (with_reducible repeat (first | refine blk_drewN ?_ _ | refine blk_drew ?_ | refine blk_alloc ?_ _)); refine blk_put (cs := #[.int .u32 ((rd_T32 t252 x6_1).f0), .int .u32 ((rd_T32 t252 x6_1).f1), .int .u64 ((rd_T32 t252 x6_1).f2), .int .u64 ((rd_T32 t252 x6_1).f3), .int .u64 ((rd_T32 t252 x6_1).f4), .int .u64 ((rd_T32 t252 x6_1).f5), .int .u64 0]) ?_ 6 _ rfl; (with_reducible repeat (first | refine blk_drewN ?_ _ | refine blk_drew ?_ | refine blk_alloc ?_ _)); refine blk_put (cs := #[.int .u32 ((rd_T32 t252 x6_1).f0), .int .u32 ((rd_T32 t252 x6_1).f1), .int .u64 ((rd_T32 t252 x6_1).f2), .int .u64 ((rd_T32 t252 x6_1).f3), .int .u64 ((rd_T32 t252 x6_1).f4), .int .u64 0, .int .u64 0]) ?_ 5 _ rfl; (with_reducible repeat (first | refine blk_drewN ?_ _ | refine blk_drew ?_ | refine blk_alloc ?_ _)); refine blk_put (cs := #[.int .u32 ((rd_T32 t252 x6_1).f0), .int .u32 ((rd_T32 t252 x6_1).f1), .int .u64 ((rd_T32 t252 x6_1).f2), .int .u64 ((rd_T32 t252 x6_1).f3), .int .u64 0, .int .u64 0, .int .u64 0]) ?_ 4 _ rfl; (with_reducible repeat (first | refine blk_drewN ?_ _ | refine blk_drew ?_ | refine blk_alloc ?_ _)); refine blk_put (cs := #[.int .u32 ((rd_T32 t252 x6_1).f0), .int .u32 ((rd_T32 t252 x6_1).f1), .int .u64 ((rd_T32 t252 x6_1).f2), .int .u64 0, .int .u64 0, .int .u64 0, .int .u64 0]) ?_ 3 _ rfl; (with_reducible repeat (first | refine blk_drewN ?_ _ | refine blk_drew ?_ | refine blk_alloc ?_ _)); refine blk_put (cs := #[.int .u32 ((rd_T32 t252 x6_1).f0), .int .u32 ((rd_T32 t252 x6_1).f1), .int .u64 0, .int .u64 0, .int .u64 0, .int .u64 0, .int .u64 0]) ?_ 2 _ rfl; (with_reducible repeat (first | refine blk_drewN ?_ _ | refine blk_drew ?_ | refine blk_alloc ?_ _)); refine blk_put (cs := #[.int .u32 ((rd_T32 t252 x6_1).f0), .int .u32 0, .int .u64 0, .int .u64 0, .int .u64 0, .int .u64 0, .int .u64 0]) ?_ 1 _ rfl; (with_reducible repeat (first | refine blk_drewN ?_ _ | refine blk_drew ?_ | refine blk_alloc ?_ _)); refine blk_put (cs := #[.int .u32 0, .int .u32 0, .int .u64 0, .int .u64 0, .int .u64 0, .int .u64 0, .int .u64 0]) ?_ 0 _ rfl; (with_reducible repeat (first | refine blk_drewN ?_ _ | refine blk_drew ?_ | refine blk_alloc ?_ _)); exact BK276.out⟩
            have n3_ : Aside0 (Below w.heap.size w (((((((w14.setCell ⟨gb276, 0, none⟩ (.int .u32 ((rd_T32 t252 x6_1).f0))).setCell ⟨gb276, 1, none⟩ (.int .u32 ((rd_T32 t252 x6_1).f1))).setCell ⟨gb276, 2, none⟩ (.int .u64 ((rd_T32 t252 x6_1).f2))).setCell ⟨gb276, 3, none⟩ (.int .u64 ((rd_T32 t252 x6_1).f3))).setCell ⟨gb276, 4, none⟩ (.int .u64 ((rd_T32 t252 x6_1).f4))).setCell ⟨gb276, 5, none⟩ (.int .u64 ((rd_T32 t252 x6_1).f5))).setCell ⟨gb276, 6, none⟩ (.int .u64 ((rd_T32 t252 x6_1).f6)))) := ⟨by repeat (first | (with_reducible first | exact HB.out | apply below_alloc | apply pw_below_drewN | apply below_drew1 | refine below_set ?_ GE270.out | refine below_set ?_ GE276.out) | exact HB.out)⟩
            (try clear HO_271001)
            (try clear BK270)
            (try clear BK276)
            (try clear HB)
            generalize (((((((w14.setCell ⟨gb276, 0, none⟩ (.int .u32 ((rd_T32 t252 x6_1).f0))).setCell ⟨gb276, 1, none⟩ (.int .u32 ((rd_T32 t252 x6_1).f1))).setCell ⟨gb276, 2, none⟩ (.int .u64 ((rd_T32 t252 x6_1).f2))).setCell ⟨gb276, 3, none⟩ (.int .u64 ((rd_T32 t252 x6_1).f3))).setCell ⟨gb276, 4, none⟩ (.int .u64 ((rd_T32 t252 x6_1).f4))).setCell ⟨gb276, 5, none⟩ (.int .u64 ((rd_T32 t252 x6_1).f5))).setCell ⟨gb276, 6, none⟩ (.int .u64 ((rd_T32 t252 x6_1).f6))) = w25 at n0_ n1_ n2_ n3_ ⊢
            have HO_271001 := n0_
            have BK270 := n1_
            have BK276 := n2_
            have HB := n3_
            clear n0_ n1_ n2_ n3_
            have n0_ := Aside0.mk (Kd.R_drew HO_271001.out)
            have n1_ := Aside0.mk (blk_drew BK270.out)
            have n2_ := Aside0.mk (blk_drew BK276.out)
            have n3_ := Aside0.mk (below_drew1 HB.out)
            clear HO_271001
            clear BK270
            clear BK276
            clear HB
            have HO_271001 := n0_
            have BK270 := n1_
            have BK276 := n2_
            have HB := n3_
            clear n0_ n1_ n2_ n3_
            refine start_ (n := 37) (S := fun w' => w'.cell? ⟨gb276, 0, none⟩ = some (.int .u32 ((rd_T32 t252 x6_1).f0)) ∧ w'.cell? ⟨gb276, 1, none⟩ = some (.int .u32 ((rd_T32 t252 x6_1).f1)) ∧ w'.cell? ⟨gb276, 2, none⟩ = some (.int .u64 ((rd_T32 t252 x6_1).f2)) ∧ w'.cell? ⟨gb276, 3, none⟩ = some (.int .u64 ((rd_T32 t252 x6_1).f3)) ∧ w'.cell? ⟨gb276, 4, none⟩ = some (.int .u64 ((rd_T32 t252 x6_1).f4)) ∧ w'.cell? ⟨gb276, 5, none⟩ = some (.int .u64 ((rd_T32 t252 x6_1).f5)) ∧ w'.cell? ⟨gb276, 6, none⟩ = some (.int .u64 ((rd_T32 t252 x6_1).f6))) (ds := []) #[false, false, false, false, false, false, false, false, false, false, false, false, false, false, false, false, false, false, false, false, false, false, false, false, false, false, false, false, false, false, false, false, false, false, false, false, false] (by kernel_rfl) rfl rfl ⟨(blk_cell BK276.out 0).trans rfl, (blk_cell BK276.out 1).trans rfl, (blk_cell BK276.out 2).trans rfl, (blk_cell BK276.out 3).trans rfl, (blk_cell BK276.out 4).trans rfl, (blk_cell BK276.out 5).trans rfl, (blk_cell BK276.out 6).trans rfl⟩ (fun hHeld => ?_); refine with_tabW messuagelaw08_HeadApart.tab11 messuagelaw08_HeadApart.bits11 (fun HT_ HW_ => ?_)
            generalize w25.drew = w26 at HO_271001 BK270 BK276 HB hHeld ⊢
            refine pure_ (i := 0) (N := some 37) (v := ?_) (a' := ?_) #[true, false, false, false, false, false, false, false, false, false, false, false, false, false, false, false, false, false, false, false, false, false, false, false, false, false, false, false, false, false, false, false, false, false, false, false, false] rfl rfl (any_of HT_.out (by kernel_rfl)) (fun _ _ _ h => h) (Or.inl ⟨by rfl, ?_⟩) ?_ ?_
            rotate_left
            ·
             intro w'
             go_simp
             with_reducible rfl
            rotate_left
            ·
             simp only [Act.put, List.setIfInBounds_toArray, List.set_cons_zero, List.set_cons_succ, i64_w, i32_w]
             rfl
            refine pure_ (i := 2) (N := some 39) (v := ?_) (a' := ?_) #[true, false, true, false, false, false, false, false, false, false, false, false, false, false, false, false, false, false, false, false, false, false, false, false, false, false, false, false, false, false, false, false, false, false, false, false, false] rfl rfl (any_of HT_.out (by kernel_rfl)) (fun _ _ _ h => h) (Or.inl ⟨by rfl, ?_⟩) ?_ ?_
            rotate_left
            ·
             intro w'
             go_simp
             with_reducible rfl
            rotate_left
            ·
             simp only [Act.put, List.setIfInBounds_toArray, List.set_cons_zero, List.set_cons_succ, i64_w, i32_w]
             rfl
            refine take_ (i := 1) (N := some 38) (v := ?_) (a' := ?_) #[true, true, true, false, false, false, false, false, false, false, false, false, false, false, false, false, false, false, false, false, false, false, false, false, false, false, false, false, false, false, false, false, false, false, false, false, false] rfl rfl (take_ofW HT_.out HW_.out (by kernel_rfl)) (fun _ _ _ h => h) (Or.inl ⟨by rfl, ?_⟩) hHeld ?_ ?_
            rotate_left
            ·
             rintro w' ⟨s0, s1, s2, s3, s4, s5, s6⟩
             go_simp
             with_reducible rfl
            rotate_left
            ·
             simp only [Act.put, List.setIfInBounds_toArray, List.set_cons_zero, List.set_cons_succ, i64_w, i32_w]
             rfl
            refine pure_ (i := 3) (N := some 40) (v := ?_) (a' := ?_) #[true, true, true, true, false, false, false, false, false, false, false, false, false, false, false, false, false, false, false, false, false, false, false, false, false, false, false, false, false, false, false, false, false, false, false, false, false] rfl rfl (any_of HT_.out (by kernel_rfl)) (fun _ _ _ h => h) (Or.inl ⟨by rfl, ?_⟩) ?_ ?_
            rotate_left
            ·
             intro w'
             go_simp
             with_reducible rfl
            rotate_left
            ·
             simp only [Act.put, List.setIfInBounds_toArray, List.set_cons_zero, List.set_cons_succ, i64_w, i32_w]
             rfl
            refine pure_ (i := 4) (N := some 41) (v := ?_) (a' := ?_) #[true, true, true, true, true, false, false, false, false, false, false, false, false, false, false, false, false, false, false, false, false, false, false, false, false, false, false, false, false, false, false, false, false, false, false, false, false] rfl rfl (any_of HT_.out (by kernel_rfl)) (fun _ _ _ h => h) (Or.inl ⟨by rfl, ?_⟩) ?_ ?_
            rotate_left
            ·
             intro w'
             go_simp
             with_reducible rfl
            rotate_left
            ·
             simp only [Act.put, List.setIfInBounds_toArray, List.set_cons_zero, List.set_cons_succ, i64_w, i32_w]
             rfl
            refine pure_ (i := 5) (N := some 42) (v := ?_) (a' := ?_) #[true, true, true, true, true, true, false, false, false, false, false, false, false, false, false, false, false, false, false, false, false, false, false, false, false, false, false, false, false, false, false, false, false, false, false, false, false] rfl rfl (any_of HT_.out (by kernel_rfl)) (fun _ _ _ h => h) (Or.inl ⟨by rfl, ?_⟩) ?_ ?_
            rotate_left
            ·
             intro w'
             go_simp
             with_reducible rfl
            rotate_left
            ·
             simp only [Act.put, List.setIfInBounds_toArray, List.set_cons_zero, List.set_cons_succ, i64_w, i32_w]
             rfl
            refine take_ (i := 6) (N := some 43) (v := ?_) (a' := ?_) #[true, true, true, true, true, true, true, false, false, false, false, false, false, false, false, false, false, false, false, false, false, false, false, false, false, false, false, false, false, false, false, false, false, false, false, false, false] rfl rfl (take_ofW HT_.out HW_.out (by kernel_rfl)) (fun _ _ _ h => h) (Or.inl ⟨by rfl, ?_⟩) hHeld ?_ ?_
            rotate_left
            ·
             rintro w' ⟨s0, s1, s2, s3, s4, s5, s6⟩
             go_simp
             with_reducible rfl
            rotate_left
            ·
             simp only [Act.put, List.setIfInBounds_toArray, List.set_cons_zero, List.set_cons_succ, i64_w, i32_w]
             rfl
            refine pure_ (i := 7) (N := some 44) (v := ?_) (a' := ?_) #[true, true, true, true, true, true, true, true, false, false, false, false, false, false, false, false, false, false, false, false, false, false, false, false, false, false, false, false, false, false, false, false, false, false, false, false, false] rfl rfl (any_of HT_.out (by kernel_rfl)) (fun _ _ _ h => h) (Or.inl ⟨by rfl, ?_⟩) ?_ ?_
            rotate_left
            ·
             intro w'
             go_simp
             with_reducible rfl
            rotate_left
            ·
             simp only [Act.put, List.setIfInBounds_toArray, List.set_cons_zero, List.set_cons_succ, i64_w, i32_w]
             rfl
            refine pure_ (i := 8) (N := some 45) (v := ?_) (a' := ?_) #[true, true, true, true, true, true, true, true, true, false, false, false, false, false, false, false, false, false, false, false, false, false, false, false, false, false, false, false, false, false, false, false, false, false, false, false, false] rfl rfl (any_of HT_.out (by kernel_rfl)) (fun _ _ _ h => h) (Or.inl ⟨by rfl, ?_⟩) ?_ ?_
            rotate_left
            ·
             intro w'
             go_simp
             with_reducible rfl
            rotate_left
            ·
             simp only [Act.put, List.setIfInBounds_toArray, List.set_cons_zero, List.set_cons_succ, i64_w, i32_w]
             rfl
            refine pure_ (i := 9) (N := some 46) (v := ?_) (a' := ?_) #[true, true, true, true, true, true, true, true, true, true, false, false, false, false, false, false, false, false, false, false, false, false, false, false, false, false, false, false, false, false, false, false, false, false, false, false, false] rfl rfl (any_of HT_.out (by kernel_rfl)) (fun _ _ _ h => h) (Or.inl ⟨by rfl, ?_⟩) ?_ ?_
            rotate_left
            ·
             intro w'
             go_simp
             with_reducible rfl
            rotate_left
            ·
             simp only [Act.put, List.setIfInBounds_toArray, List.set_cons_zero, List.set_cons_succ, i64_w, i32_w]
             rfl
            refine pure_ (i := 10) (N := some 47) (v := ?_) (a' := ?_) #[true, true, true, true, true, true, true, true, true, true, true, false, false, false, false, false, false, false, false, false, false, false, false, false, false, false, false, false, false, false, false, false, false, false, false, false, false] rfl rfl (any_of HT_.out (by kernel_rfl)) (fun _ _ _ h => h) (Or.inl ⟨by rfl, ?_⟩) ?_ ?_
            rotate_left
            ·
             intro w'
             go_simp
             with_reducible rfl
            rotate_left
            ·
             simp only [Act.put, List.setIfInBounds_toArray, List.set_cons_zero, List.set_cons_succ, i64_w, i32_w]
             rfl
            refine take_ (i := 11) (N := some 48) (v := ?_) (a' := ?_) #[true, true, true, true, true, true, true, true, true, true, true, true, false, false, false, false, false, false, false, false, false, false, false, false, false, false, false, false, false, false, false, false, false, false, false, false, false] rfl rfl (take_ofW HT_.out HW_.out (by kernel_rfl)) (fun _ _ _ h => h) (Or.inl ⟨by rfl, ?_⟩) hHeld ?_ ?_
            rotate_left
            ·
             rintro w' ⟨s0, s1, s2, s3, s4, s5, s6⟩
             go_simp
             with_reducible rfl
            rotate_left
            ·
             simp only [Act.put, List.setIfInBounds_toArray, List.set_cons_zero, List.set_cons_succ, i64_w, i32_w]
             rfl
            refine one_ (i := 12) (N := some 49) #[true, true, true, true, true, true, true, true, true, true, true, true, true, false, false, false, false, false, false, false, false, false, false, false, false, false, false, false, false, false, false, false, false, false, false, false, false] rfl rfl (one_of HT_.out (by kernel_rfl)) (by decide) (fun K hK => ?_)
            refine goes_ Try.func15 (by kernel_rfl) rfl #[.agg #[.int .u32 ((rd_T32 t252 x6_1).f0), .int .u32 ((rd_T32 t252 x6_1).f1), .int .u64 ((rd_T32 t252 x6_1).f2), .int .u64 ((rd_T32 t252 x6_1).f3), .int .u64 ((rd_T32 t252 x6_1).f4), .int .u64 ((rd_T32 t252 x6_1).f5), .int .u64 ((rd_T32 t252 x6_1).f6)]] (by rfl) rfl rfl (by (try simp only [List.map_toArray, List.map_cons, List.map_nil]); first | done | rfl | (simp only [List.length_drop, List.length_take]; rfl)) ?_
            with_reducible refine (head_End.calls ((rd_T32 t252 x6_1).f0) ((rd_T32 t252 x6_1).f1) ((rd_T32 t252 x6_1).f2) ((rd_T32 t252 x6_1).f3) ((rd_T32 t252 x6_1).f4) ((rd_T32 t252 x6_1).f5) ((rd_T32 t252 x6_1).f6) t277 _ A21.out).mono ?_
            rintro e w27 ⟨rfl, hb⟩
            refine ⟨_, rfl, ?_⟩
            have n0_ := Aside0.mk (Kd.R_below (by (with_reducible repeat (first | apply Kd.R_alloc | apply Kd.R_drewN | apply Kd.R_drew)); exact HO_271001.out) hb)
            have n1_ := Aside0.mk (blk_below (g := gb270) (o := .cells #[.int .u16 t251, .slice (some ad275) t252.length co8, .int .u32 t255, .int .u32 t256, .int .u64 t257, .int .u64 t258, .int .u64 t259, .int .u64 t260, .int .u64 t261, .int .u32 t262, .int .u32 t263, .int .u64 t264, .int .u64 t265, .int .u64 t266, .int .u64 t267, .int .u64 t268] 37 (0, 0)) (by (with_reducible repeat (first | refine blk_drewN ?_ _ | refine blk_drew ?_ | refine blk_alloc ?_ _)); exact BK270.out) hb)
            have n2_ := Aside0.mk (blk_below (g := gb276) (o := .cells #[.int .u32 ((rd_T32 t252 x6_1).f0), .int .u32 ((rd_T32 t252 x6_1).f1), .int .u64 ((rd_T32 t252 x6_1).f2), .int .u64 ((rd_T32 t252 x6_1).f3), .int .u64 ((rd_T32 t252 x6_1).f4), .int .u64 ((rd_T32 t252 x6_1).f5), .int .u64 ((rd_T32 t252 x6_1).f6)] 32 (0, 0)) (by (with_reducible repeat (first | refine blk_drewN ?_ _ | refine blk_drew ?_ | refine blk_alloc ?_ _)); exact BK276.out) hb)
            have n3_ := Aside0.mk (below_step (by repeat (first | (with_reducible first | exact HB.out | apply below_alloc | apply pw_below_drewN | apply below_drew1 | refine below_set ?_ GE270.out | refine below_set ?_ GE276.out) | exact HB.out)) hb)
            clear HO_271001
            clear BK270
            clear BK276
            clear HB
            have HO_271001 := n0_
            have BK270 := n1_
            have BK276 := n2_
            have HB := n3_
            clear n0_ n1_ n2_ n3_
            (try clear hb)
            (try clear hb2)
            (try clear hk)
            (try clear hi)
            refine hK.out _ _ ⟨(blk_cell BK276.out 0).trans rfl, (blk_cell BK276.out 1).trans rfl, (blk_cell BK276.out 2).trans rfl, (blk_cell BK276.out 3).trans rfl, (blk_cell BK276.out 4).trans rfl, (blk_cell BK276.out 5).trans rfl, (blk_cell BK276.out 6).trans rfl⟩ (fun hHeld => ?_)
            clear hK K
            refine norm_ (a' := ?_) ?_ ?_
            rotate_left
            ·
             show Act.put _ (some 49) _ = _
             simp only [Act.put, List.setIfInBounds_toArray, List.set_cons_zero, List.set_cons_succ, i64_w, i32_w]
             rfl
            refine pure_ (i := 13) (N := some 50) (v := ?_) (a' := ?_) #[true, true, true, true, true, true, true, true, true, true, true, true, true, true, false, false, false, false, false, false, false, false, false, false, false, false, false, false, false, false, false, false, false, false, false, false, false] rfl rfl (any_of HT_.out (by kernel_rfl)) (fun _ _ _ h => h) (Or.inl ⟨by rfl, ?_⟩) ?_ ?_
            rotate_left
            ·
             intro w'
             go_simp
             with_reducible rfl
            rotate_left
            ·
             simp only [Act.put, List.setIfInBounds_toArray, List.set_cons_zero, List.set_cons_succ, i64_w, i32_w]
             rfl
            refine pure_ (i := 14) (N := some 51) (v := ?_) (a' := ?_) #[true, true, true, true, true, true, true, true, true, true, true, true, true, true, true, false, false, false, false, false, false, false, false, false, false, false, false, false, false, false, false, false, false, false, false, false, false] rfl rfl (any_of HT_.out (by kernel_rfl)) (fun _ _ _ h => h) (Or.inl ⟨by rfl, ?_⟩) ?_ ?_
            rotate_left
            ·
             intro w'
             go_simp
             with_reducible rfl
            rotate_left
            ·
             simp only [Act.put, List.setIfInBounds_toArray, List.set_cons_zero, List.set_cons_succ, i64_w, i32_w]
             rfl
            refine pure_ (i := 15) (N := some 52) (v := ?_) (a' := ?_) #[true, true, true, true, true, true, true, true, true, true, true, true, true, true, true, true, false, false, false, false, false, false, false, false, false, false, false, false, false, false, false, false, false, false, false, false, false] rfl rfl (any_of HT_.out (by kernel_rfl)) (fun _ _ _ h => h) (Or.inl ⟨by rfl, ?_⟩) ?_ ?_
            rotate_left
            ·
             intro w'
             go_simp
             with_reducible rfl
            rotate_left
            ·
             simp only [Act.put, List.setIfInBounds_toArray, List.set_cons_zero, List.set_cons_succ, i64_w, i32_w]
             rfl
            refine pure_ (i := 16) (N := some 53) (v := ?_) (a' := ?_) #[true, true, true, true, true, true, true, true, true, true, true, true, true, true, true, true, true, false, false, false, false, false, false, false, false, false, false, false, false, false, false, false, false, false, false, false, false] rfl rfl (any_of HT_.out (by kernel_rfl)) (fun _ _ _ h => h) (Or.inl ⟨by rfl, ?_⟩) ?_ ?_
            rotate_left
            ·
             intro w'
             go_simp
             with_reducible rfl
            rotate_left
            ·
             simp only [Act.put, List.setIfInBounds_toArray, List.set_cons_zero, List.set_cons_succ, i64_w, i32_w]
             rfl
            refine pure_ (i := 19) (N := some 56) (v := ?_) (a' := ?_) #[true, true, true, true, true, true, true, true, true, true, true, true, true, true, true, true, true, false, false, true, false, false, false, false, false, false, false, false, false, false, false, false, false, false, false, false, false] rfl rfl (any_of HT_.out (by kernel_rfl)) (fun _ _ _ h => h) (Or.inl ⟨by rfl, ?_⟩) ?_ ?_
            rotate_left
            ·
             intro w'
             go_simp
             with_reducible rfl
            rotate_left
            ·
             simp only [Act.put, List.setIfInBounds_toArray, List.set_cons_zero, List.set_cons_succ, i64_w, i32_w]
             rfl
            refine pure_ (i := 22) (N := some 59) (v := ?_) (a' := ?_) #[true, true, true, true, true, true, true, true, true, true, true, true, true, true, true, true, true, false, false, true, false, false, true, false, false, false, false, false, false, false, false, false, false, false, false, false, false] rfl rfl (any_of HT_.out (by kernel_rfl)) (fun _ _ _ h => h) (Or.inl ⟨by rfl, ?_⟩) ?_ ?_
            rotate_left
            ·
             intro w'
             go_simp
             with_reducible rfl
            rotate_left
            ·
             simp only [Act.put, List.setIfInBounds_toArray, List.set_cons_zero, List.set_cons_succ, i64_w, i32_w]
             rfl
            refine take_ (i := 17) (N := some 54) (v := ?_) (a' := ?_) #[true, true, true, true, true, true, true, true, true, true, true, true, true, true, true, true, true, true, false, true, false, false, true, false, false, false, false, false, false, false, false, false, false, false, false, false, false] rfl rfl (take_ofW HT_.out HW_.out (by kernel_rfl)) (fun _ _ _ h => h) (Or.inl ⟨by rfl, ?_⟩) hHeld ?_ ?_
            rotate_left
            ·
             rintro w' ⟨s0, s1, s2, s3, s4, s5, s6⟩
             go_simp
             with_reducible rfl
            rotate_left
            ·
             simp only [Act.put, List.setIfInBounds_toArray, List.set_cons_zero, List.set_cons_succ, i64_w, i32_w]
             rfl
            refine take_ (i := 20) (N := some 57) (v := ?_) (a' := ?_) #[true, true, true, true, true, true, true, true, true, true, true, true, true, true, true, true, true, true, false, true, true, false, true, false, false, false, false, false, false, false, false, false, false, false, false, false, false] rfl rfl (take_ofW HT_.out HW_.out (by kernel_rfl)) (fun _ _ _ h => h) (Or.inl ⟨by rfl, ?_⟩) hHeld ?_ ?_
            rotate_left
            ·
             rintro w' ⟨s0, s1, s2, s3, s4, s5, s6⟩
             go_simp
             with_reducible rfl
            rotate_left
            ·
             simp only [Act.put, List.setIfInBounds_toArray, List.set_cons_zero, List.set_cons_succ, i64_w, i32_w]
             rfl
            refine take_ (i := 23) (N := some 60) (v := ?_) (a' := ?_) #[true, true, true, true, true, true, true, true, true, true, true, true, true, true, true, true, true, true, false, true, true, false, true, true, false, false, false, false, false, false, false, false, false, false, false, false, false] rfl rfl (take_ofW HT_.out HW_.out (by kernel_rfl)) (fun _ _ _ h => h) (Or.inl ⟨by rfl, ?_⟩) hHeld ?_ ?_
            rotate_left
            ·
             rintro w' ⟨s0, s1, s2, s3, s4, s5, s6⟩
             go_simp
             with_reducible rfl
            rotate_left
            ·
             simp only [Act.put, List.setIfInBounds_toArray, List.set_cons_zero, List.set_cons_succ, i64_w, i32_w]
             rfl
            refine one_ (i := 18) (N := some 55) #[true, true, true, true, true, true, true, true, true, true, true, true, true, true, true, true, true, true, true, true, true, false, true, true, false, false, false, false, false, false, false, false, false, false, false, false, false] rfl rfl (one_of HT_.out (by kernel_rfl)) (by decide) (fun K hK => ?_)
            refine goes_ Try.func15 (by kernel_rfl) rfl #[.agg #[.int .u32 ((rd_T32 t252 x6_1).f0), .int .u32 ((rd_T32 t252 x6_1).f1), .int .u64 ((rd_T32 t252 x6_1).f2), .int .u64 ((rd_T32 t252 x6_1).f3), .int .u64 ((rd_T32 t252 x6_1).f4), .int .u64 ((rd_T32 t252 x6_1).f5), .int .u64 ((rd_T32 t252 x6_1).f6)]] (by rfl) rfl rfl (by (try simp only [List.map_toArray, List.map_cons, List.map_nil]); first | done | rfl | (simp only [List.length_drop, List.length_take]; rfl)) ?_
            with_reducible refine (head_End.calls ((rd_T32 t252 x6_1).f0) ((rd_T32 t252 x6_1).f1) ((rd_T32 t252 x6_1).f2) ((rd_T32 t252 x6_1).f3) ((rd_T32 t252 x6_1).f4) ((rd_T32 t252 x6_1).f5) ((rd_T32 t252 x6_1).f6) t278 _ A23.out).mono ?_
            rintro e w28 ⟨rfl, hb⟩
            refine ⟨_, rfl, ?_⟩
            have n0_ := Aside0.mk (Kd.R_below (by (with_reducible repeat (first | apply Kd.R_alloc | apply Kd.R_drewN | apply Kd.R_drew)); exact HO_271001.out) hb)
            have n1_ := Aside0.mk (blk_below (g := gb270) (o := .cells #[.int .u16 t251, .slice (some ad275) t252.length co8, .int .u32 t255, .int .u32 t256, .int .u64 t257, .int .u64 t258, .int .u64 t259, .int .u64 t260, .int .u64 t261, .int .u32 t262, .int .u32 t263, .int .u64 t264, .int .u64 t265, .int .u64 t266, .int .u64 t267, .int .u64 t268] 37 (0, 0)) (by (with_reducible repeat (first | refine blk_drewN ?_ _ | refine blk_drew ?_ | refine blk_alloc ?_ _)); exact BK270.out) hb)
            have n2_ := Aside0.mk (blk_below (g := gb276) (o := .cells #[.int .u32 ((rd_T32 t252 x6_1).f0), .int .u32 ((rd_T32 t252 x6_1).f1), .int .u64 ((rd_T32 t252 x6_1).f2), .int .u64 ((rd_T32 t252 x6_1).f3), .int .u64 ((rd_T32 t252 x6_1).f4), .int .u64 ((rd_T32 t252 x6_1).f5), .int .u64 ((rd_T32 t252 x6_1).f6)] 32 (0, 0)) (by (with_reducible repeat (first | refine blk_drewN ?_ _ | refine blk_drew ?_ | refine blk_alloc ?_ _)); exact BK276.out) hb)
            have n3_ := Aside0.mk (below_step (by repeat (first | (with_reducible first | exact HB.out | apply below_alloc | apply pw_below_drewN | apply below_drew1 | refine below_set ?_ GE270.out | refine below_set ?_ GE276.out) | exact HB.out)) hb)
            clear HO_271001
            clear BK270
            clear BK276
            clear HB
            have HO_271001 := n0_
            have BK270 := n1_
            have BK276 := n2_
            have HB := n3_
            clear n0_ n1_ n2_ n3_
            (try clear hb)
            (try clear hb2)
            (try clear hk)
            (try clear hi)
            refine hK.out _ _ ⟨(blk_cell BK276.out 0).trans rfl, (blk_cell BK276.out 1).trans rfl, (blk_cell BK276.out 2).trans rfl, (blk_cell BK276.out 3).trans rfl, (blk_cell BK276.out 4).trans rfl, (blk_cell BK276.out 5).trans rfl, (blk_cell BK276.out 6).trans rfl⟩ (fun hHeld => ?_)
            clear hK K
            refine norm_ (a' := ?_) ?_ ?_
            rotate_left
            ·
             show Act.put _ (some 55) _ = _
             simp only [Act.put, List.setIfInBounds_toArray, List.set_cons_zero, List.set_cons_succ, i64_w, i32_w]
             rfl
            refine pure_ (i := 21) (N := some 58) (v := ?_) (a' := ?_) #[true, true, true, true, true, true, true, true, true, true, true, true, true, true, true, true, true, true, true, true, true, true, true, true, false, false, false, false, false, false, false, false, false, false, false, false, false] rfl rfl (any_of HT_.out (by kernel_rfl)) (fun _ _ _ h => h) (Or.inl ⟨by rfl, ?_⟩) ?_ ?_
            rotate_left
            ·
             intro w'
             go_simp
             with_reducible rfl
            rotate_left
            ·
             simp only [Act.put, List.setIfInBounds_toArray, List.set_cons_zero, List.set_cons_succ, i64_w, i32_w]
             rfl
            refine pure_ (i := 24) (N := some 61) (v := ?_) (a' := ?_) #[true, true, true, true, true, true, true, true, true, true, true, true, true, true, true, true, true, true, true, true, true, true, true, true, true, false, false, false, false, false, false, false, false, false, false, false, false] rfl rfl (any_of HT_.out (by kernel_rfl)) (fun _ _ _ h => h) (Or.inl ⟨by rfl, ?_⟩) ?_ ?_
            rotate_left
            ·
             intro w'
             go_simp
             with_reducible rfl
            rotate_left
            ·
             simp only [Act.put, List.setIfInBounds_toArray, List.set_cons_zero, List.set_cons_succ, i64_w, i32_w]
             rfl
            refine pure_ (i := 25) (N := some 62) (v := ?_) (a' := ?_) #[true, true, true, true, true, true, true, true, true, true, true, true, true, true, true, true, true, true, true, true, true, true, true, true, true, true, false, false, false, false, false, false, false, false, false, false, false] rfl rfl (any_of HT_.out (by kernel_rfl)) (fun _ _ _ h => h) (Or.inl ⟨by rfl, ?_⟩) ?_ ?_
            rotate_left
            ·
             intro w'
             go_simp
             with_reducible rfl
            rotate_left
            ·
             simp only [Act.put, List.setIfInBounds_toArray, List.set_cons_zero, List.set_cons_succ, i64_w, i32_w]
             rfl
            refine pure_ (i := 26) (N := some 63) (v := ?_) (a' := ?_) #[true, true, true, true, true, true, true, true, true, true, true, true, true, true, true, true, true, true, true, true, true, true, true, true, true, true, true, false, false, false, false, false, false, false, false, false, false] rfl rfl (any_of HT_.out (by kernel_rfl)) (fun _ _ _ h => h) (Or.inl ⟨by rfl, ?_⟩) ?_ ?_
            rotate_left
            ·
             intro w'
             go_simp
             with_reducible rfl
            rotate_left
            ·
             simp only [Act.put, List.setIfInBounds_toArray, List.set_cons_zero, List.set_cons_succ, i64_w, i32_w]
             rfl
            refine pure_ (i := 27) (N := some 64) (v := undef) (a' := ?_) #[true, true, true, true, true, true, true, true, true, true, true, true, true, true, true, true, true, true, true, true, true, true, true, true, true, true, true, true, false, false, false, false, false, false, false, false, false] rfl rfl (any_of HT_.out (by kernel_rfl)) (fun _ _ _ h => h) (Or.inr ⟨by rfl, rfl⟩) ?_ ?_
            rotate_left
            ·
             simp only [Act.put, List.setIfInBounds_toArray, List.set_cons_zero, List.set_cons_succ, i64_w, i32_w]
             rfl
            refine pure_ (i := 28) (N := some 65) (v := undef) (a' := ?_) #[true, true, true, true, true, true, true, true, true, true, true, true, true, true, true, true, true, true, true, true, true, true, true, true, true, true, true, true, true, false, false, false, false, false, false, false, false] rfl rfl (any_of HT_.out (by kernel_rfl)) (fun _ _ _ h => h) (Or.inr ⟨by rfl, rfl⟩) ?_ ?_
            rotate_left
            ·
             simp only [Act.put, List.setIfInBounds_toArray, List.set_cons_zero, List.set_cons_succ, i64_w, i32_w]
             rfl
            refine pure_ (i := 29) (N := some 66) (v := undef) (a' := ?_) #[true, true, true, true, true, true, true, true, true, true, true, true, true, true, true, true, true, true, true, true, true, true, true, true, true, true, true, true, true, true, false, false, false, false, false, false, false] rfl rfl (any_of HT_.out (by kernel_rfl)) (fun _ _ _ h => h) (Or.inr ⟨by rfl, rfl⟩) ?_ ?_
            rotate_left
            ·
             simp only [Act.put, List.setIfInBounds_toArray, List.set_cons_zero, List.set_cons_succ, i64_w, i32_w]
             rfl
            refine pure_ (i := 30) (N := some 67) (v := undef) (a' := ?_) #[true, true, true, true, true, true, true, true, true, true, true, true, true, true, true, true, true, true, true, true, true, true, true, true, true, true, true, true, true, true, true, false, false, false, false, false, false] rfl rfl (any_of HT_.out (by kernel_rfl)) (fun _ _ _ h => h) (Or.inr ⟨by rfl, rfl⟩) ?_ ?_
            rotate_left
            ·
             simp only [Act.put, List.setIfInBounds_toArray, List.set_cons_zero, List.set_cons_succ, i64_w, i32_w]
             rfl
            refine pure_ (i := 31) (N := some 68) (v := undef) (a' := ?_) #[true, true, true, true, true, true, true, true, true, true, true, true, true, true, true, true, true, true, true, true, true, true, true, true, true, true, true, true, true, true, true, true, false, false, false, false, false] rfl rfl (any_of HT_.out (by kernel_rfl)) (fun _ _ _ h => h) (Or.inr ⟨by rfl, rfl⟩) ?_ ?_
            rotate_left
            ·
             simp only [Act.put, List.setIfInBounds_toArray, List.set_cons_zero, List.set_cons_succ, i64_w, i32_w]
             rfl
            refine pure_ (i := 32) (N := some 69) (v := undef) (a' := ?_) #[true, true, true, true, true, true, true, true, true, true, true, true, true, true, true, true, true, true, true, true, true, true, true, true, true, true, true, true, true, true, true, true, true, false, false, false, false] rfl rfl (any_of HT_.out (by kernel_rfl)) (fun _ _ _ h => h) (Or.inr ⟨by rfl, rfl⟩) ?_ ?_
            rotate_left
            ·
             simp only [Act.put, List.setIfInBounds_toArray, List.set_cons_zero, List.set_cons_succ, i64_w, i32_w]
             rfl
            refine pure_ (i := 33) (N := some 70) (v := undef) (a' := ?_) #[true, true, true, true, true, true, true, true, true, true, true, true, true, true, true, true, true, true, true, true, true, true, true, true, true, true, true, true, true, true, true, true, true, true, false, false, false] rfl rfl (any_of HT_.out (by kernel_rfl)) (fun _ _ _ h => h) (Or.inr ⟨by rfl, rfl⟩) ?_ ?_
            rotate_left
            ·
             simp only [Act.put, List.setIfInBounds_toArray, List.set_cons_zero, List.set_cons_succ, i64_w, i32_w]
             rfl
            refine pure_ (i := 34) (N := some 71) (v := undef) (a' := ?_) #[true, true, true, true, true, true, true, true, true, true, true, true, true, true, true, true, true, true, true, true, true, true, true, true, true, true, true, true, true, true, true, true, true, true, true, false, false] rfl rfl (any_of HT_.out (by kernel_rfl)) (fun _ _ _ h => h) (Or.inr ⟨by rfl, rfl⟩) ?_ ?_
            rotate_left
            ·
             simp only [Act.put, List.setIfInBounds_toArray, List.set_cons_zero, List.set_cons_succ, i64_w, i32_w]
             rfl
            refine pure_ (i := 35) (N := some 72) (v := undef) (a' := ?_) #[true, true, true, true, true, true, true, true, true, true, true, true, true, true, true, true, true, true, true, true, true, true, true, true, true, true, true, true, true, true, true, true, true, true, true, true, false] rfl rfl (any_of HT_.out (by kernel_rfl)) (fun _ _ _ h => h) (Or.inr ⟨by rfl, rfl⟩) ?_ ?_
            rotate_left
            ·
             simp only [Act.put, List.setIfInBounds_toArray, List.set_cons_zero, List.set_cons_succ, i64_w, i32_w]
             rfl
            refine pure_ (i := 36) (N := some 73) (v := ?_) (a' := ?_) #[true, true, true, true, true, true, true, true, true, true, true, true, true, true, true, true, true, true, true, true, true, true, true, true, true, true, true, true, true, true, true, true, true, true, true, true, true] rfl rfl (any_of HT_.out (by kernel_rfl)) (fun _ _ _ h => h) (Or.inl ⟨by rfl, ?_⟩) ?_ ?_
            rotate_left
            ·
             intro w'
             go_simp
             with_reducible rfl
            rotate_left
            ·
             simp only [Act.put, List.setIfInBounds_toArray, List.set_cons_zero, List.set_cons_succ, i64_w, i32_w]
             rfl
            refine done_ (done_of HT_.out (by kernel_rfl)) ?_
            try go_wp2
            go_meet
            case rel => exact ⟨_, (true), (by first | rfl | (simp; done) | (simp [*]; done)), H', ⟨by have := HK1.out; first | omega | exact Nat.le_refl _⟩, ⟨by (with_reducible repeat (first | apply Kd.R_alloc | apply Kd.R_drewN | apply Kd.R_drew)); first | exact HO_271001.out | exact Kd.R_mono HO_271001.out (fun k_ hk_ => own_len hk_)⟩, ⟨by (with_reducible repeat (first | refine blk_drewN ?_ _ | refine blk_drew ?_ | refine blk_alloc ?_ _)); exact BK270.out⟩, ⟨by (with_reducible repeat (first | refine blk_drewN ?_ _ | refine blk_drew ?_ | refine blk_alloc ?_ _)); exact BK276.out⟩, ⟨by repeat (first | (with_reducible first | exact HB.out | apply below_alloc | apply pw_below_drewN | apply below_drew1 | refine below_set ?_ GE270.out | refine below_set ?_ GE276.out) | exact HB.out)⟩⟩
           ·
            rw [if_neg c24] at H
            have c24b0 : decide ((IntKind.u64.wrap (t278 - ((rd_T32 t252 x6_1).f3))) < ((rd_T32 t252 x6_1).f5)) = false := decide_eq_false c24
            clear c24
            replace H := Option.bind_eq_some_iff.mp H
            obtain ⟨t279, A290, H⟩ := H
            replace H : (messuagelaw08_HeadApart.j1 k1 l0 x6_1 (decide ((IntKind.u64.wrap ((IntKind.u64.wrap (t279 - ((rd_T32 t252 x6_1).f3))) - ((rd_T32 t252 x6_1).f5))) ≥ 256)) t251 t252 t255 t256 t257 t258 t259 t260 t261 t262 t263 t264 t265 t266 t267 t268 ((rd_T32 t252 x6_1).f0) ((rd_T32 t252 x6_1).f1) ((rd_T32 t252 x6_1).f2) ((rd_T32 t252 x6_1).f3) ((rd_T32 t252 x6_1).f4) ((rd_T32 t252 x6_1).f5) ((rd_T32 t252 x6_1).f6)) = some r := H
            have A29 := Aside0.mk A290
            clear A290
            have H' := Aside0.mk H
            clear H
            try go_wp2
            have n0_ : Aside0 (Kd.R k32 32 (((((((w14.setCell ⟨gb276, 0, none⟩ (.int .u32 ((rd_T32 t252 x6_1).f0))).setCell ⟨gb276, 1, none⟩ (.int .u32 ((rd_T32 t252 x6_1).f1))).setCell ⟨gb276, 2, none⟩ (.int .u64 ((rd_T32 t252 x6_1).f2))).setCell ⟨gb276, 3, none⟩ (.int .u64 ((rd_T32 t252 x6_1).f3))).setCell ⟨gb276, 4, none⟩ (.int .u64 ((rd_T32 t252 x6_1).f4))).setCell ⟨gb276, 5, none⟩ (.int .u64 ((rd_T32 t252 x6_1).f5))).setCell ⟨gb276, 6, none⟩ (.int .u64 ((rd_T32 t252 x6_1).f6))) w.heap.size (fun k_ => k_ ≠ gb276) (.slice (some ad275) t252.length co8) t252) := ⟨by (with_reducible repeat (first | apply Kd.R_alloc | apply Kd.R_drewN | apply Kd.R_drew)); exact Kd.R_mono (Kd.R_far (p := ⟨gb276, 6, none⟩) (Kd.R_far (p := ⟨gb276, 5, none⟩) (Kd.R_far (p := ⟨gb276, 4, none⟩) (Kd.R_far (p := ⟨gb276, 3, none⟩) (Kd.R_far (p := ⟨gb276, 2, none⟩) (Kd.R_far (p := ⟨gb276, 1, none⟩) (Kd.R_far (p := ⟨gb276, 0, none⟩) (Kd.R_mono HO_271001.out (fun k_ hk => (⟨hk, hk.2⟩ : _ ∧ k_ ≠ gb276))) (fun _ hk => hk.2) (.int .u32 ((rd_T32 t252 x6_1).f0))) (fun _ hk => hk.2) (.int .u32 ((rd_T32 t252 x6_1).f1))) (fun _ hk => hk.2) (.int .u64 ((rd_T32 t252 x6_1).f2))) (fun _ hk => hk.2) (.int .u64 ((rd_T32 t252 x6_1).f3))) (fun _ hk => hk.2) (.int .u64 ((rd_T32 t252 x6_1).f4))) (fun _ hk => hk.2) (.int .u64 ((rd_T32 t252 x6_1).f5))) (fun _ hk => hk.2) (.int .u64 ((rd_T32 t252 x6_1).f6))) (fun _ hk => hk.1.2)⟩
            have n1_ : Aside0 ((((((((w14.setCell ⟨gb276, 0, none⟩ (.int .u32 ((rd_T32 t252 x6_1).f0))).setCell ⟨gb276, 1, none⟩ (.int .u32 ((rd_T32 t252 x6_1).f1))).setCell ⟨gb276, 2, none⟩ (.int .u64 ((rd_T32 t252 x6_1).f2))).setCell ⟨gb276, 3, none⟩ (.int .u64 ((rd_T32 t252 x6_1).f3))).setCell ⟨gb276, 4, none⟩ (.int .u64 ((rd_T32 t252 x6_1).f4))).setCell ⟨gb276, 5, none⟩ (.int .u64 ((rd_T32 t252 x6_1).f5))).setCell ⟨gb276, 6, none⟩ (.int .u64 ((rd_T32 t252 x6_1).f6))).heap[gb270]? = some (.cells #[.int .u16 t251, .slice (some ad275) t252.length co8, .int .u32 t255, .int .u32 t256, .int .u64 t257, .int .u64 t258, .int .u64 t259, .int .u64 t260, .int .u64 t261, .int .u32 t262, .int .u32 t263, .int .u64 t264, .int .u64 t265, .int .u64 t266, .int .u64 t267, .int .u64 t268] 37 (0, 0))) := ⟨by (with_reducible repeat (first | refine blk_drewN ?_ _ | refine blk_drew ?_ | refine blk_alloc ?_ _)); refine blk_far ?_ NB270_276.out _; (with_reducible repeat (first | refine blk_drewN ?_ _ | refine blk_drew ?_ | refine blk_alloc ?_ _)); refine blk_far ?_ NB270_276.out _; (with_reducible repeat (first | refine blk_drewN ?_ _ | refine blk_drew ?_ | refine blk_alloc ?_ _)); refine blk_far ?_ NB270_276.out _; (with_reducible repeat (first | refine blk_drewN ?_ _ | refine blk_drew ?_ | refine blk_alloc ?_ _)); refine blk_far ?_ NB270_276.out _; (with_reducible repeat (first | refine blk_drewN ?_ _ | refine blk_drew ?_ | refine blk_alloc ?_ _)); refine blk_far ?_ NB270_276.out _; (with_reducible repeat (first | refine blk_drewN ?_ _ | refine blk_drew ?_ | refine blk_alloc ?_ _)); refine blk_far ?_ NB270_276.out _; (with_reducible repeat (first | refine blk_drewN ?_ _ | refine blk_drew ?_ | refine blk_alloc ?_ _)); refine blk_far ?_ NB270_276.out _; (with_reducible repeat (first | refine blk_drewN ?_ _ | refine blk_drew ?_ | refine blk_alloc ?_ _)); exact BK270.out⟩
            have n2_ : Aside0 ((((((((w14.setCell ⟨gb276, 0, none⟩ (.int .u32 ((rd_T32 t252 x6_1).f0))).setCell ⟨gb276, 1, none⟩ (.int .u32 ((rd_T32 t252 x6_1).f1))).setCell ⟨gb276, 2, none⟩ (.int .u64 ((rd_T32 t252 x6_1).f2))).setCell ⟨gb276, 3, none⟩ (.int .u64 ((rd_T32 t252 x6_1).f3))).setCell ⟨gb276, 4, none⟩ (.int .u64 ((rd_T32 t252 x6_1).f4))).setCell ⟨gb276, 5, none⟩ (.int .u64 ((rd_T32 t252 x6_1).f5))).setCell ⟨gb276, 6, none⟩ (.int .u64 ((rd_T32 t252 x6_1).f6))).heap[gb276]? = some (.cells #[.int .u32 ((rd_T32 t252 x6_1).f0), .int .u32 ((rd_T32 t252 x6_1).f1), .int .u64 ((rd_T32 t252 x6_1).f2), .int .u64 ((rd_T32 t252 x6_1).f3), .int .u64 ((rd_T32 t252 x6_1).f4), .int .u64 ((rd_T32 t252 x6_1).f5), .int .u64 ((rd_T32 t252 x6_1).f6)] 32 (0, 0))) := ⟨by (with_reducible repeat (first | refine blk_drewN ?_ _ | refine blk_drew ?_ | refine blk_alloc ?_ _)); refine blk_put (cs := #[.int .u32 ((rd_T32 t252 x6_1).f0), .int .u32 ((rd_T32 t252 x6_1).f1), .int .u64 ((rd_T32 t252 x6_1).f2), .int .u64 ((rd_T32 t252 x6_1).f3), .int .u64 ((rd_T32 t252 x6_1).f4), .int .u64 ((rd_T32 t252 x6_1).f5), .int .u64 0]) ?_ 6 _ rfl; (with_reducible repeat (first | refine blk_drewN ?_ _ | refine blk_drew ?_ | refine blk_alloc ?_ _)); refine blk_put (cs := #[.int .u32 ((rd_T32 t252 x6_1).f0), .int .u32 ((rd_T32 t252 x6_1).f1), .int .u64 ((rd_T32 t252 x6_1).f2), .int .u64 ((rd_T32 t252 x6_1).f3), .int .u64 ((rd_T32 t252 x6_1).f4), .int .u64 0, .int .u64 0]) ?_ 5 _ rfl; (with_reducible repeat (first | refine blk_drewN ?_ _ | refine blk_drew ?_ | refine blk_alloc ?_ _)); refine blk_put (cs := #[.int .u32 ((rd_T32 t252 x6_1).f0), .int .u32 ((rd_T32 t252 x6_1).f1), .int .u64 ((rd_T32 t252 x6_1).f2), .int .u64 ((rd_T32 t252 x6_1).f3), .int .u64 0, .int .u64 0, .int .u64 0]) ?_ 4 _ rfl; (with_reducible repeat (first | refine blk_drewN ?_ _ | refine blk_drew ?_ | refine blk_alloc ?_ _)); refine blk_put (cs := #[.int .u32 ((rd_T32 t252 x6_1).f0), .int .u32 ((rd_T32 t252 x6_1).f1), .int .u64 ((rd_T32 t252 x6_1).f2), .int .u64 0, .int .u64 0, .int .u64 0, .int .u64 0]) ?_ 3 _ rfl; (with_reducible repeat (first | refine blk_drewN ?_ _ | refine blk_drew ?_ | refine blk_alloc ?_ _)); refine blk_put (cs := #[.int .u32 ((rd_T32 t252 x6_1).f0), .int .u32 ((rd_T32 t252 x6_1).f1), .int .u64 0, .int .u64 0, .int .u64 0, .int .u64 0, .int .u64 0]) ?_ 2 _ rfl; (with_reducible repeat (first | refine blk_drewN ?_ _ | refine blk_drew ?_ | refine blk_alloc ?_ _)); refine blk_put (cs := #[.int .u32 ((rd_T32 t252 x6_1).f0), .int .u32 0, .int .u64 0, .int .u64 0, .int .u64 0, .int .u64 0, .int .u64 0]) ?_ 1 _ rfl; (with_reducible repeat (first | refine blk_drewN ?_ _ | refine blk_drew ?_ | refine blk_alloc ?_ _)); refine blk_put (cs := #[.int .u32 0, .int .u32 0, .int .u64 0, .int .u64 0, .int .u64 0, .int .u64 0, .int .u64 0]) ?_ 0 _ rfl; (with_reducible repeat (first | refine blk_drewN ?_ _ | refine blk_drew ?_ | refine blk_alloc ?_ _)); exact BK276.out⟩
            have n3_ : Aside0 (Below w.heap.size w (((((((w14.setCell ⟨gb276, 0, none⟩ (.int .u32 ((rd_T32 t252 x6_1).f0))).setCell ⟨gb276, 1, none⟩ (.int .u32 ((rd_T32 t252 x6_1).f1))).setCell ⟨gb276, 2, none⟩ (.int .u64 ((rd_T32 t252 x6_1).f2))).setCell ⟨gb276, 3, none⟩ (.int .u64 ((rd_T32 t252 x6_1).f3))).setCell ⟨gb276, 4, none⟩ (.int .u64 ((rd_T32 t252 x6_1).f4))).setCell ⟨gb276, 5, none⟩ (.int .u64 ((rd_T32 t252 x6_1).f5))).setCell ⟨gb276, 6, none⟩ (.int .u64 ((rd_T32 t252 x6_1).f6)))) := ⟨by repeat (first | (with_reducible first | exact HB.out | apply below_alloc | apply pw_below_drewN | apply below_drew1 | refine below_set ?_ GE270.out | refine below_set ?_ GE276.out) | exact HB.out)⟩
            (try clear HO_271001)
            (try clear BK270)
            (try clear BK276)
            (try clear HB)
            generalize (((((((w14.setCell ⟨gb276, 0, none⟩ (.int .u32 ((rd_T32 t252 x6_1).f0))).setCell ⟨gb276, 1, none⟩ (.int .u32 ((rd_T32 t252 x6_1).f1))).setCell ⟨gb276, 2, none⟩ (.int .u64 ((rd_T32 t252 x6_1).f2))).setCell ⟨gb276, 3, none⟩ (.int .u64 ((rd_T32 t252 x6_1).f3))).setCell ⟨gb276, 4, none⟩ (.int .u64 ((rd_T32 t252 x6_1).f4))).setCell ⟨gb276, 5, none⟩ (.int .u64 ((rd_T32 t252 x6_1).f5))).setCell ⟨gb276, 6, none⟩ (.int .u64 ((rd_T32 t252 x6_1).f6))) = w30 at n0_ n1_ n2_ n3_ ⊢
            have HO_271001 := n0_
            have BK270 := n1_
            have BK276 := n2_
            have HB := n3_
            clear n0_ n1_ n2_ n3_
            have n0_ := Aside0.mk (Kd.R_drew HO_271001.out)
            have n1_ := Aside0.mk (blk_drew BK270.out)
            have n2_ := Aside0.mk (blk_drew BK276.out)
            have n3_ := Aside0.mk (below_drew1 HB.out)
            clear HO_271001
            clear BK270
            clear BK276
            clear HB
            have HO_271001 := n0_
            have BK270 := n1_
            have BK276 := n2_
            have HB := n3_
            clear n0_ n1_ n2_ n3_
            refine start_ (n := 37) (S := fun w' => w'.cell? ⟨gb276, 0, none⟩ = some (.int .u32 ((rd_T32 t252 x6_1).f0)) ∧ w'.cell? ⟨gb276, 1, none⟩ = some (.int .u32 ((rd_T32 t252 x6_1).f1)) ∧ w'.cell? ⟨gb276, 2, none⟩ = some (.int .u64 ((rd_T32 t252 x6_1).f2)) ∧ w'.cell? ⟨gb276, 3, none⟩ = some (.int .u64 ((rd_T32 t252 x6_1).f3)) ∧ w'.cell? ⟨gb276, 4, none⟩ = some (.int .u64 ((rd_T32 t252 x6_1).f4)) ∧ w'.cell? ⟨gb276, 5, none⟩ = some (.int .u64 ((rd_T32 t252 x6_1).f5)) ∧ w'.cell? ⟨gb276, 6, none⟩ = some (.int .u64 ((rd_T32 t252 x6_1).f6))) (ds := []) #[false, false, false, false, false, false, false, false, false, false, false, false, false, false, false, false, false, false, false, false, false, false, false, false, false, false, false, false, false, false, false, false, false, false, false, false, false] (by kernel_rfl) rfl rfl ⟨(blk_cell BK276.out 0).trans rfl, (blk_cell BK276.out 1).trans rfl, (blk_cell BK276.out 2).trans rfl, (blk_cell BK276.out 3).trans rfl, (blk_cell BK276.out 4).trans rfl, (blk_cell BK276.out 5).trans rfl, (blk_cell BK276.out 6).trans rfl⟩ (fun hHeld => ?_); refine with_tabW messuagelaw08_HeadApart.tab11 messuagelaw08_HeadApart.bits11 (fun HT_ HW_ => ?_)
            generalize w30.drew = w31 at HO_271001 BK270 BK276 HB hHeld ⊢
            refine pure_ (i := 0) (N := some 37) (v := ?_) (a' := ?_) #[true, false, false, false, false, false, false, false, false, false, false, false, false, false, false, false, false, false, false, false, false, false, false, false, false, false, false, false, false, false, false, false, false, false, false, false, false] rfl rfl (any_of HT_.out (by kernel_rfl)) (fun _ _ _ h => h) (Or.inl ⟨by rfl, ?_⟩) ?_ ?_
            rotate_left
            ·
             intro w'
             go_simp
             with_reducible rfl
            rotate_left
            ·
             simp only [Act.put, List.setIfInBounds_toArray, List.set_cons_zero, List.set_cons_succ, i64_w, i32_w]
             rfl
            refine pure_ (i := 2) (N := some 39) (v := ?_) (a' := ?_) #[true, false, true, false, false, false, false, false, false, false, false, false, false, false, false, false, false, false, false, false, false, false, false, false, false, false, false, false, false, false, false, false, false, false, false, false, false] rfl rfl (any_of HT_.out (by kernel_rfl)) (fun _ _ _ h => h) (Or.inl ⟨by rfl, ?_⟩) ?_ ?_
            rotate_left
            ·
             intro w'
             go_simp
             with_reducible rfl
            rotate_left
            ·
             simp only [Act.put, List.setIfInBounds_toArray, List.set_cons_zero, List.set_cons_succ, i64_w, i32_w]
             rfl
            refine take_ (i := 1) (N := some 38) (v := ?_) (a' := ?_) #[true, true, true, false, false, false, false, false, false, false, false, false, false, false, false, false, false, false, false, false, false, false, false, false, false, false, false, false, false, false, false, false, false, false, false, false, false] rfl rfl (take_ofW HT_.out HW_.out (by kernel_rfl)) (fun _ _ _ h => h) (Or.inl ⟨by rfl, ?_⟩) hHeld ?_ ?_
            rotate_left
            ·
             rintro w' ⟨s0, s1, s2, s3, s4, s5, s6⟩
             go_simp
             with_reducible rfl
            rotate_left
            ·
             simp only [Act.put, List.setIfInBounds_toArray, List.set_cons_zero, List.set_cons_succ, i64_w, i32_w]
             rfl
            refine pure_ (i := 3) (N := some 40) (v := ?_) (a' := ?_) #[true, true, true, true, false, false, false, false, false, false, false, false, false, false, false, false, false, false, false, false, false, false, false, false, false, false, false, false, false, false, false, false, false, false, false, false, false] rfl rfl (any_of HT_.out (by kernel_rfl)) (fun _ _ _ h => h) (Or.inl ⟨by rfl, ?_⟩) ?_ ?_
            rotate_left
            ·
             intro w'
             go_simp
             with_reducible rfl
            rotate_left
            ·
             simp only [Act.put, List.setIfInBounds_toArray, List.set_cons_zero, List.set_cons_succ, i64_w, i32_w]
             rfl
            refine pure_ (i := 4) (N := some 41) (v := ?_) (a' := ?_) #[true, true, true, true, true, false, false, false, false, false, false, false, false, false, false, false, false, false, false, false, false, false, false, false, false, false, false, false, false, false, false, false, false, false, false, false, false] rfl rfl (any_of HT_.out (by kernel_rfl)) (fun _ _ _ h => h) (Or.inl ⟨by rfl, ?_⟩) ?_ ?_
            rotate_left
            ·
             intro w'
             go_simp
             with_reducible rfl
            rotate_left
            ·
             simp only [Act.put, List.setIfInBounds_toArray, List.set_cons_zero, List.set_cons_succ, i64_w, i32_w]
             rfl
            refine pure_ (i := 5) (N := some 42) (v := ?_) (a' := ?_) #[true, true, true, true, true, true, false, false, false, false, false, false, false, false, false, false, false, false, false, false, false, false, false, false, false, false, false, false, false, false, false, false, false, false, false, false, false] rfl rfl (any_of HT_.out (by kernel_rfl)) (fun _ _ _ h => h) (Or.inl ⟨by rfl, ?_⟩) ?_ ?_
            rotate_left
            ·
             intro w'
             go_simp
             with_reducible rfl
            rotate_left
            ·
             simp only [Act.put, List.setIfInBounds_toArray, List.set_cons_zero, List.set_cons_succ, i64_w, i32_w]
             rfl
            refine take_ (i := 6) (N := some 43) (v := ?_) (a' := ?_) #[true, true, true, true, true, true, true, false, false, false, false, false, false, false, false, false, false, false, false, false, false, false, false, false, false, false, false, false, false, false, false, false, false, false, false, false, false] rfl rfl (take_ofW HT_.out HW_.out (by kernel_rfl)) (fun _ _ _ h => h) (Or.inl ⟨by rfl, ?_⟩) hHeld ?_ ?_
            rotate_left
            ·
             rintro w' ⟨s0, s1, s2, s3, s4, s5, s6⟩
             go_simp
             with_reducible rfl
            rotate_left
            ·
             simp only [Act.put, List.setIfInBounds_toArray, List.set_cons_zero, List.set_cons_succ, i64_w, i32_w]
             rfl
            refine pure_ (i := 7) (N := some 44) (v := ?_) (a' := ?_) #[true, true, true, true, true, true, true, true, false, false, false, false, false, false, false, false, false, false, false, false, false, false, false, false, false, false, false, false, false, false, false, false, false, false, false, false, false] rfl rfl (any_of HT_.out (by kernel_rfl)) (fun _ _ _ h => h) (Or.inl ⟨by rfl, ?_⟩) ?_ ?_
            rotate_left
            ·
             intro w'
             go_simp
             with_reducible rfl
            rotate_left
            ·
             simp only [Act.put, List.setIfInBounds_toArray, List.set_cons_zero, List.set_cons_succ, i64_w, i32_w]
             rfl
            refine pure_ (i := 8) (N := some 45) (v := ?_) (a' := ?_) #[true, true, true, true, true, true, true, true, true, false, false, false, false, false, false, false, false, false, false, false, false, false, false, false, false, false, false, false, false, false, false, false, false, false, false, false, false] rfl rfl (any_of HT_.out (by kernel_rfl)) (fun _ _ _ h => h) (Or.inl ⟨by rfl, ?_⟩) ?_ ?_
            rotate_left
            ·
             intro w'
             go_simp
             with_reducible rfl
            rotate_left
            ·
             simp only [Act.put, List.setIfInBounds_toArray, List.set_cons_zero, List.set_cons_succ, i64_w, i32_w]
             rfl
            refine pure_ (i := 9) (N := some 46) (v := ?_) (a' := ?_) #[true, true, true, true, true, true, true, true, true, true, false, false, false, false, false, false, false, false, false, false, false, false, false, false, false, false, false, false, false, false, false, false, false, false, false, false, false] rfl rfl (any_of HT_.out (by kernel_rfl)) (fun _ _ _ h => h) (Or.inl ⟨by rfl, ?_⟩) ?_ ?_
            rotate_left
            ·
             intro w'
             go_simp
             with_reducible rfl
            rotate_left
            ·
             simp only [Act.put, List.setIfInBounds_toArray, List.set_cons_zero, List.set_cons_succ, i64_w, i32_w]
             rfl
            refine pure_ (i := 10) (N := some 47) (v := ?_) (a' := ?_) #[true, true, true, true, true, true, true, true, true, true, true, false, false, false, false, false, false, false, false, false, false, false, false, false, false, false, false, false, false, false, false, false, false, false, false, false, false] rfl rfl (any_of HT_.out (by kernel_rfl)) (fun _ _ _ h => h) (Or.inl ⟨by rfl, ?_⟩) ?_ ?_
            rotate_left
            ·
             intro w'
             go_simp
             with_reducible rfl
            rotate_left
            ·
             simp only [Act.put, List.setIfInBounds_toArray, List.set_cons_zero, List.set_cons_succ, i64_w, i32_w]
             rfl
            refine take_ (i := 11) (N := some 48) (v := ?_) (a' := ?_) #[true, true, true, true, true, true, true, true, true, true, true, true, false, false, false, false, false, false, false, false, false, false, false, false, false, false, false, false, false, false, false, false, false, false, false, false, false] rfl rfl (take_ofW HT_.out HW_.out (by kernel_rfl)) (fun _ _ _ h => h) (Or.inl ⟨by rfl, ?_⟩) hHeld ?_ ?_
            rotate_left
            ·
             rintro w' ⟨s0, s1, s2, s3, s4, s5, s6⟩
             go_simp
             with_reducible rfl
            rotate_left
            ·
             simp only [Act.put, List.setIfInBounds_toArray, List.set_cons_zero, List.set_cons_succ, i64_w, i32_w]
             rfl
            refine one_ (i := 12) (N := some 49) #[true, true, true, true, true, true, true, true, true, true, true, true, true, false, false, false, false, false, false, false, false, false, false, false, false, false, false, false, false, false, false, false, false, false, false, false, false] rfl rfl (one_of HT_.out (by kernel_rfl)) (by decide) (fun K hK => ?_)
            refine goes_ Try.func15 (by kernel_rfl) rfl #[.agg #[.int .u32 ((rd_T32 t252 x6_1).f0), .int .u32 ((rd_T32 t252 x6_1).f1), .int .u64 ((rd_T32 t252 x6_1).f2), .int .u64 ((rd_T32 t252 x6_1).f3), .int .u64 ((rd_T32 t252 x6_1).f4), .int .u64 ((rd_T32 t252 x6_1).f5), .int .u64 ((rd_T32 t252 x6_1).f6)]] (by rfl) rfl rfl (by (try simp only [List.map_toArray, List.map_cons, List.map_nil]); first | done | rfl | (simp only [List.length_drop, List.length_take]; rfl)) ?_
            with_reducible refine (head_End.calls ((rd_T32 t252 x6_1).f0) ((rd_T32 t252 x6_1).f1) ((rd_T32 t252 x6_1).f2) ((rd_T32 t252 x6_1).f3) ((rd_T32 t252 x6_1).f4) ((rd_T32 t252 x6_1).f5) ((rd_T32 t252 x6_1).f6) t277 _ A21.out).mono ?_
            rintro e w32 ⟨rfl, hb⟩
            refine ⟨_, rfl, ?_⟩
            have n0_ := Aside0.mk (Kd.R_below (by (with_reducible repeat (first | apply Kd.R_alloc | apply Kd.R_drewN | apply Kd.R_drew)); exact HO_271001.out) hb)
            have n1_ := Aside0.mk (blk_below (g := gb270) (o := .cells #[.int .u16 t251, .slice (some ad275) t252.length co8, .int .u32 t255, .int .u32 t256, .int .u64 t257, .int .u64 t258, .int .u64 t259, .int .u64 t260, .int .u64 t261, .int .u32 t262, .int .u32 t263, .int .u64 t264, .int .u64 t265, .int .u64 t266, .int .u64 t267, .int .u64 t268] 37 (0, 0)) (by (with_reducible repeat (first | refine blk_drewN ?_ _ | refine blk_drew ?_ | refine blk_alloc ?_ _)); exact BK270.out) hb)
            have n2_ := Aside0.mk (blk_below (g := gb276) (o := .cells #[.int .u32 ((rd_T32 t252 x6_1).f0), .int .u32 ((rd_T32 t252 x6_1).f1), .int .u64 ((rd_T32 t252 x6_1).f2), .int .u64 ((rd_T32 t252 x6_1).f3), .int .u64 ((rd_T32 t252 x6_1).f4), .int .u64 ((rd_T32 t252 x6_1).f5), .int .u64 ((rd_T32 t252 x6_1).f6)] 32 (0, 0)) (by (with_reducible repeat (first | refine blk_drewN ?_ _ | refine blk_drew ?_ | refine blk_alloc ?_ _)); exact BK276.out) hb)
            have n3_ := Aside0.mk (below_step (by repeat (first | (with_reducible first | exact HB.out | apply below_alloc | apply pw_below_drewN | apply below_drew1 | refine below_set ?_ GE270.out | refine below_set ?_ GE276.out) | exact HB.out)) hb)
            clear HO_271001
            clear BK270
            clear BK276
            clear HB
            have HO_271001 := n0_
            have BK270 := n1_
            have BK276 := n2_
            have HB := n3_
            clear n0_ n1_ n2_ n3_
            (try clear hb)
            (try clear hb2)
            (try clear hk)
            (try clear hi)
            refine hK.out _ _ ⟨(blk_cell BK276.out 0).trans rfl, (blk_cell BK276.out 1).trans rfl, (blk_cell BK276.out 2).trans rfl, (blk_cell BK276.out 3).trans rfl, (blk_cell BK276.out 4).trans rfl, (blk_cell BK276.out 5).trans rfl, (blk_cell BK276.out 6).trans rfl⟩ (fun hHeld => ?_)
            clear hK K
            refine norm_ (a' := ?_) ?_ ?_
            rotate_left
            ·
             show Act.put _ (some 49) _ = _
             simp only [Act.put, List.setIfInBounds_toArray, List.set_cons_zero, List.set_cons_succ, i64_w, i32_w]
             rfl
            refine pure_ (i := 13) (N := some 50) (v := ?_) (a' := ?_) #[true, true, true, true, true, true, true, true, true, true, true, true, true, true, false, false, false, false, false, false, false, false, false, false, false, false, false, false, false, false, false, false, false, false, false, false, false] rfl rfl (any_of HT_.out (by kernel_rfl)) (fun _ _ _ h => h) (Or.inl ⟨by rfl, ?_⟩) ?_ ?_
            rotate_left
            ·
             intro w'
             go_simp
             with_reducible rfl
            rotate_left
            ·
             simp only [Act.put, List.setIfInBounds_toArray, List.set_cons_zero, List.set_cons_succ, i64_w, i32_w]
             rfl
            refine pure_ (i := 14) (N := some 51) (v := ?_) (a' := ?_) #[true, true, true, true, true, true, true, true, true, true, true, true, true, true, true, false, false, false, false, false, false, false, false, false, false, false, false, false, false, false, false, false, false, false, false, false, false] rfl rfl (any_of HT_.out (by kernel_rfl)) (fun _ _ _ h => h) (Or.inl ⟨by rfl, ?_⟩) ?_ ?_
            rotate_left
            ·
             intro w'
             go_simp
             with_reducible rfl
            rotate_left
            ·
             simp only [Act.put, List.setIfInBounds_toArray, List.set_cons_zero, List.set_cons_succ, i64_w, i32_w]
             rfl
            refine pure_ (i := 15) (N := some 52) (v := ?_) (a' := ?_) #[true, true, true, true, true, true, true, true, true, true, true, true, true, true, true, true, false, false, false, false, false, false, false, false, false, false, false, false, false, false, false, false, false, false, false, false, false] rfl rfl (any_of HT_.out (by kernel_rfl)) (fun _ _ _ h => h) (Or.inl ⟨by rfl, ?_⟩) ?_ ?_
            rotate_left
            ·
             intro w'
             go_simp
             with_reducible rfl
            rotate_left
            ·
             simp only [Act.put, List.setIfInBounds_toArray, List.set_cons_zero, List.set_cons_succ, i64_w, i32_w]
             rfl
            refine pure_ (i := 16) (N := some 53) (v := ?_) (a' := ?_) #[true, true, true, true, true, true, true, true, true, true, true, true, true, true, true, true, true, false, false, false, false, false, false, false, false, false, false, false, false, false, false, false, false, false, false, false, false] rfl rfl (any_of HT_.out (by kernel_rfl)) (fun _ _ _ h => h) (Or.inl ⟨by rfl, ?_⟩) ?_ ?_
            rotate_left
            ·
             intro w'
             go_simp
             with_reducible rfl
            rotate_left
            ·
             simp only [Act.put, List.setIfInBounds_toArray, List.set_cons_zero, List.set_cons_succ, i64_w, i32_w]
             rfl
            refine pure_ (i := 19) (N := some 56) (v := ?_) (a' := ?_) #[true, true, true, true, true, true, true, true, true, true, true, true, true, true, true, true, true, false, false, true, false, false, false, false, false, false, false, false, false, false, false, false, false, false, false, false, false] rfl rfl (any_of HT_.out (by kernel_rfl)) (fun _ _ _ h => h) (Or.inl ⟨by rfl, ?_⟩) ?_ ?_
            rotate_left
            ·
             intro w'
             go_simp
             with_reducible rfl
            rotate_left
            ·
             simp only [Act.put, List.setIfInBounds_toArray, List.set_cons_zero, List.set_cons_succ, i64_w, i32_w]
             rfl
            refine pure_ (i := 22) (N := some 59) (v := ?_) (a' := ?_) #[true, true, true, true, true, true, true, true, true, true, true, true, true, true, true, true, true, false, false, true, false, false, true, false, false, false, false, false, false, false, false, false, false, false, false, false, false] rfl rfl (any_of HT_.out (by kernel_rfl)) (fun _ _ _ h => h) (Or.inl ⟨by rfl, ?_⟩) ?_ ?_
            rotate_left
            ·
             intro w'
             go_simp
             with_reducible rfl
            rotate_left
            ·
             simp only [Act.put, List.setIfInBounds_toArray, List.set_cons_zero, List.set_cons_succ, i64_w, i32_w]
             rfl
            refine take_ (i := 17) (N := some 54) (v := ?_) (a' := ?_) #[true, true, true, true, true, true, true, true, true, true, true, true, true, true, true, true, true, true, false, true, false, false, true, false, false, false, false, false, false, false, false, false, false, false, false, false, false] rfl rfl (take_ofW HT_.out HW_.out (by kernel_rfl)) (fun _ _ _ h => h) (Or.inl ⟨by rfl, ?_⟩) hHeld ?_ ?_
            rotate_left
            ·
             rintro w' ⟨s0, s1, s2, s3, s4, s5, s6⟩
             go_simp
             with_reducible rfl
            rotate_left
            ·
             simp only [Act.put, List.setIfInBounds_toArray, List.set_cons_zero, List.set_cons_succ, i64_w, i32_w]
             rfl
            refine take_ (i := 20) (N := some 57) (v := ?_) (a' := ?_) #[true, true, true, true, true, true, true, true, true, true, true, true, true, true, true, true, true, true, false, true, true, false, true, false, false, false, false, false, false, false, false, false, false, false, false, false, false] rfl rfl (take_ofW HT_.out HW_.out (by kernel_rfl)) (fun _ _ _ h => h) (Or.inl ⟨by rfl, ?_⟩) hHeld ?_ ?_
            rotate_left
            ·
             rintro w' ⟨s0, s1, s2, s3, s4, s5, s6⟩
             go_simp
             with_reducible rfl
            rotate_left
            ·
             simp only [Act.put, List.setIfInBounds_toArray, List.set_cons_zero, List.set_cons_succ, i64_w, i32_w]
             rfl
            refine take_ (i := 23) (N := some 60) (v := ?_) (a' := ?_) #[true, true, true, true, true, true, true, true, true, true, true, true, true, true, true, true, true, true, false, true, true, false, true, true, false, false, false, false, false, false, false, false, false, false, false, false, false] rfl rfl (take_ofW HT_.out HW_.out (by kernel_rfl)) (fun _ _ _ h => h) (Or.inl ⟨by rfl, ?_⟩) hHeld ?_ ?_
            rotate_left
            ·
             rintro w' ⟨s0, s1, s2, s3, s4, s5, s6⟩
             go_simp
             with_reducible rfl
            rotate_left
            ·
             simp only [Act.put, List.setIfInBounds_toArray, List.set_cons_zero, List.set_cons_succ, i64_w, i32_w]
             rfl
            refine one_ (i := 18) (N := some 55) #[true, true, true, true, true, true, true, true, true, true, true, true, true, true, true, true, true, true, true, true, true, false, true, true, false, false, false, false, false, false, false, false, false, false, false, false, false] rfl rfl (one_of HT_.out (by kernel_rfl)) (by decide) (fun K hK => ?_)
            refine goes_ Try.func15 (by kernel_rfl) rfl #[.agg #[.int .u32 ((rd_T32 t252 x6_1).f0), .int .u32 ((rd_T32 t252 x6_1).f1), .int .u64 ((rd_T32 t252 x6_1).f2), .int .u64 ((rd_T32 t252 x6_1).f3), .int .u64 ((rd_T32 t252 x6_1).f4), .int .u64 ((rd_T32 t252 x6_1).f5), .int .u64 ((rd_T32 t252 x6_1).f6)]] (by rfl) rfl rfl (by (try simp only [List.map_toArray, List.map_cons, List.map_nil]); first | done | rfl | (simp only [List.length_drop, List.length_take]; rfl)) ?_
            with_reducible refine (head_End.calls ((rd_T32 t252 x6_1).f0) ((rd_T32 t252 x6_1).f1) ((rd_T32 t252 x6_1).f2) ((rd_T32 t252 x6_1).f3) ((rd_T32 t252 x6_1).f4) ((rd_T32 t252 x6_1).f5) ((rd_T32 t252 x6_1).f6) t278 _ A23.out).mono ?_
            rintro e w33 ⟨rfl, hb⟩
            refine ⟨_, rfl, ?_⟩
            have n0_ := Aside0.mk (Kd.R_below (by (with_reducible repeat (first | apply Kd.R_alloc | apply Kd.R_drewN | apply Kd.R_drew)); exact HO_271001.out) hb)
            have n1_ := Aside0.mk (blk_below (g := gb270) (o := .cells #[.int .u16 t251, .slice (some ad275) t252.length co8, .int .u32 t255, .int .u32 t256, .int .u64 t257, .int .u64 t258, .int .u64 t259, .int .u64 t260, .int .u64 t261, .int .u32 t262, .int .u32 t263, .int .u64 t264, .int .u64 t265, .int .u64 t266, .int .u64 t267, .int .u64 t268] 37 (0, 0)) (by (with_reducible repeat (first | refine blk_drewN ?_ _ | refine blk_drew ?_ | refine blk_alloc ?_ _)); exact BK270.out) hb)
            have n2_ := Aside0.mk (blk_below (g := gb276) (o := .cells #[.int .u32 ((rd_T32 t252 x6_1).f0), .int .u32 ((rd_T32 t252 x6_1).f1), .int .u64 ((rd_T32 t252 x6_1).f2), .int .u64 ((rd_T32 t252 x6_1).f3), .int .u64 ((rd_T32 t252 x6_1).f4), .int .u64 ((rd_T32 t252 x6_1).f5), .int .u64 ((rd_T32 t252 x6_1).f6)] 32 (0, 0)) (by (with_reducible repeat (first | refine blk_drewN ?_ _ | refine blk_drew ?_ | refine blk_alloc ?_ _)); exact BK276.out) hb)
            have n3_ := Aside0.mk (below_step (by repeat (first | (with_reducible first | exact HB.out | apply below_alloc | apply pw_below_drewN | apply below_drew1 | refine below_set ?_ GE270.out | refine below_set ?_ GE276.out) | exact HB.out)) hb)
            clear HO_271001
            clear BK270
            clear BK276
            clear HB
            have HO_271001 := n0_
            have BK270 := n1_
            have BK276 := n2_
            have HB := n3_
            clear n0_ n1_ n2_ n3_
            (try clear hb)
            (try clear hb2)
            (try clear hk)
            (try clear hi)
            refine hK.out _ _ ⟨(blk_cell BK276.out 0).trans rfl, (blk_cell BK276.out 1).trans rfl, (blk_cell BK276.out 2).trans rfl, (blk_cell BK276.out 3).trans rfl, (blk_cell BK276.out 4).trans rfl, (blk_cell BK276.out 5).trans rfl, (blk_cell BK276.out 6).trans rfl⟩ (fun hHeld => ?_)
            clear hK K
            refine norm_ (a' := ?_) ?_ ?_
            rotate_left
            ·
             show Act.put _ (some 55) _ = _
             simp only [Act.put, List.setIfInBounds_toArray, List.set_cons_zero, List.set_cons_succ, i64_w, i32_w]
             rfl
            refine pure_ (i := 21) (N := some 58) (v := ?_) (a' := ?_) #[true, true, true, true, true, true, true, true, true, true, true, true, true, true, true, true, true, true, true, true, true, true, true, true, false, false, false, false, false, false, false, false, false, false, false, false, false] rfl rfl (any_of HT_.out (by kernel_rfl)) (fun _ _ _ h => h) (Or.inl ⟨by rfl, ?_⟩) ?_ ?_
            rotate_left
            ·
             intro w'
             go_simp
             with_reducible rfl
            rotate_left
            ·
             simp only [Act.put, List.setIfInBounds_toArray, List.set_cons_zero, List.set_cons_succ, i64_w, i32_w]
             rfl
            refine pure_ (i := 24) (N := some 61) (v := ?_) (a' := ?_) #[true, true, true, true, true, true, true, true, true, true, true, true, true, true, true, true, true, true, true, true, true, true, true, true, true, false, false, false, false, false, false, false, false, false, false, false, false] rfl rfl (any_of HT_.out (by kernel_rfl)) (fun _ _ _ h => h) (Or.inl ⟨by rfl, ?_⟩) ?_ ?_
            rotate_left
            ·
             intro w'
             go_simp
             with_reducible rfl
            rotate_left
            ·
             simp only [Act.put, List.setIfInBounds_toArray, List.set_cons_zero, List.set_cons_succ, i64_w, i32_w]
             rfl
            refine pure_ (i := 25) (N := some 62) (v := ?_) (a' := ?_) #[true, true, true, true, true, true, true, true, true, true, true, true, true, true, true, true, true, true, true, true, true, true, true, true, true, true, false, false, false, false, false, false, false, false, false, false, false] rfl rfl (any_of HT_.out (by kernel_rfl)) (fun _ _ _ h => h) (Or.inl ⟨by rfl, ?_⟩) ?_ ?_
            rotate_left
            ·
             intro w'
             go_simp
             with_reducible rfl
            rotate_left
            ·
             simp only [Act.put, List.setIfInBounds_toArray, List.set_cons_zero, List.set_cons_succ, i64_w, i32_w]
             rfl
            refine pure_ (i := 26) (N := some 63) (v := ?_) (a' := ?_) #[true, true, true, true, true, true, true, true, true, true, true, true, true, true, true, true, true, true, true, true, true, true, true, true, true, true, true, false, false, false, false, false, false, false, false, false, false] rfl rfl (any_of HT_.out (by kernel_rfl)) (fun _ _ _ h => h) (Or.inl ⟨by rfl, ?_⟩) ?_ ?_
            rotate_left
            ·
             intro w'
             go_simp
             with_reducible rfl
            rotate_left
            ·
             simp only [Act.put, List.setIfInBounds_toArray, List.set_cons_zero, List.set_cons_succ, i64_w, i32_w]
             rfl
            refine pure_ (i := 29) (N := some 66) (v := ?_) (a' := ?_) #[true, true, true, true, true, true, true, true, true, true, true, true, true, true, true, true, true, true, true, true, true, true, true, true, true, true, true, false, false, true, false, false, false, false, false, false, false] rfl rfl (any_of HT_.out (by kernel_rfl)) (fun _ _ _ h => h) (Or.inl ⟨by rfl, ?_⟩) ?_ ?_
            rotate_left
            ·
             intro w'
             go_simp
             with_reducible rfl
            rotate_left
            ·
             simp only [Act.put, List.setIfInBounds_toArray, List.set_cons_zero, List.set_cons_succ, i64_w, i32_w]
             rfl
            refine pure_ (i := 32) (N := some 69) (v := ?_) (a' := ?_) #[true, true, true, true, true, true, true, true, true, true, true, true, true, true, true, true, true, true, true, true, true, true, true, true, true, true, true, false, false, true, false, false, true, false, false, false, false] rfl rfl (any_of HT_.out (by kernel_rfl)) (fun _ _ _ h => h) (Or.inl ⟨by rfl, ?_⟩) ?_ ?_
            rotate_left
            ·
             intro w'
             go_simp
             with_reducible rfl
            rotate_left
            ·
             simp only [Act.put, List.setIfInBounds_toArray, List.set_cons_zero, List.set_cons_succ, i64_w, i32_w]
             rfl
            refine take_ (i := 27) (N := some 64) (v := ?_) (a' := ?_) #[true, true, true, true, true, true, true, true, true, true, true, true, true, true, true, true, true, true, true, true, true, true, true, true, true, true, true, true, false, true, false, false, true, false, false, false, false] rfl rfl (take_ofW HT_.out HW_.out (by kernel_rfl)) (fun _ _ _ h => h) (Or.inl ⟨by rfl, ?_⟩) hHeld ?_ ?_
            rotate_left
            ·
             rintro w' ⟨s0, s1, s2, s3, s4, s5, s6⟩
             go_simp
             with_reducible rfl
            rotate_left
            ·
             simp only [Act.put, List.setIfInBounds_toArray, List.set_cons_zero, List.set_cons_succ, i64_w, i32_w]
             rfl
            refine take_ (i := 30) (N := some 67) (v := ?_) (a' := ?_) #[true, true, true, true, true, true, true, true, true, true, true, true, true, true, true, true, true, true, true, true, true, true, true, true, true, true, true, true, false, true, true, false, true, false, false, false, false] rfl rfl (take_ofW HT_.out HW_.out (by kernel_rfl)) (fun _ _ _ h => h) (Or.inl ⟨by rfl, ?_⟩) hHeld ?_ ?_
            rotate_left
            ·
             rintro w' ⟨s0, s1, s2, s3, s4, s5, s6⟩
             go_simp
             with_reducible rfl
            rotate_left
            ·
             simp only [Act.put, List.setIfInBounds_toArray, List.set_cons_zero, List.set_cons_succ, i64_w, i32_w]
             rfl
            refine take_ (i := 33) (N := some 70) (v := ?_) (a' := ?_) #[true, true, true, true, true, true, true, true, true, true, true, true, true, true, true, true, true, true, true, true, true, true, true, true, true, true, true, true, false, true, true, false, true, true, false, false, false] rfl rfl (take_ofW HT_.out HW_.out (by kernel_rfl)) (fun _ _ _ h => h) (Or.inl ⟨by rfl, ?_⟩) hHeld ?_ ?_
            rotate_left
            ·
             rintro w' ⟨s0, s1, s2, s3, s4, s5, s6⟩
             go_simp
             with_reducible rfl
            rotate_left
            ·
             simp only [Act.put, List.setIfInBounds_toArray, List.set_cons_zero, List.set_cons_succ, i64_w, i32_w]
             rfl
            refine one_ (i := 28) (N := some 65) #[true, true, true, true, true, true, true, true, true, true, true, true, true, true, true, true, true, true, true, true, true, true, true, true, true, true, true, true, true, true, true, false, true, true, false, false, false] rfl rfl (one_of HT_.out (by kernel_rfl)) (by decide) (fun K hK => ?_)
            refine goes_ Try.func15 (by kernel_rfl) rfl #[.agg #[.int .u32 ((rd_T32 t252 x6_1).f0), .int .u32 ((rd_T32 t252 x6_1).f1), .int .u64 ((rd_T32 t252 x6_1).f2), .int .u64 ((rd_T32 t252 x6_1).f3), .int .u64 ((rd_T32 t252 x6_1).f4), .int .u64 ((rd_T32 t252 x6_1).f5), .int .u64 ((rd_T32 t252 x6_1).f6)]] (by rfl) rfl rfl (by (try simp only [List.map_toArray, List.map_cons, List.map_nil]); first | done | rfl | (simp only [List.length_drop, List.length_take]; rfl)) ?_
            with_reducible refine (head_End.calls ((rd_T32 t252 x6_1).f0) ((rd_T32 t252 x6_1).f1) ((rd_T32 t252 x6_1).f2) ((rd_T32 t252 x6_1).f3) ((rd_T32 t252 x6_1).f4) ((rd_T32 t252 x6_1).f5) ((rd_T32 t252 x6_1).f6) t279 _ A29.out).mono ?_
            rintro e w34 ⟨rfl, hb⟩
            refine ⟨_, rfl, ?_⟩
            have n0_ := Aside0.mk (Kd.R_below (by (with_reducible repeat (first | apply Kd.R_alloc | apply Kd.R_drewN | apply Kd.R_drew)); exact HO_271001.out) hb)
            have n1_ := Aside0.mk (blk_below (g := gb270) (o := .cells #[.int .u16 t251, .slice (some ad275) t252.length co8, .int .u32 t255, .int .u32 t256, .int .u64 t257, .int .u64 t258, .int .u64 t259, .int .u64 t260, .int .u64 t261, .int .u32 t262, .int .u32 t263, .int .u64 t264, .int .u64 t265, .int .u64 t266, .int .u64 t267, .int .u64 t268] 37 (0, 0)) (by (with_reducible repeat (first | refine blk_drewN ?_ _ | refine blk_drew ?_ | refine blk_alloc ?_ _)); exact BK270.out) hb)
            have n2_ := Aside0.mk (blk_below (g := gb276) (o := .cells #[.int .u32 ((rd_T32 t252 x6_1).f0), .int .u32 ((rd_T32 t252 x6_1).f1), .int .u64 ((rd_T32 t252 x6_1).f2), .int .u64 ((rd_T32 t252 x6_1).f3), .int .u64 ((rd_T32 t252 x6_1).f4), .int .u64 ((rd_T32 t252 x6_1).f5), .int .u64 ((rd_T32 t252 x6_1).f6)] 32 (0, 0)) (by (with_reducible repeat (first | refine blk_drewN ?_ _ | refine blk_drew ?_ | refine blk_alloc ?_ _)); exact BK276.out) hb)
            have n3_ := Aside0.mk (below_step (by repeat (first | (with_reducible first | exact HB.out | apply below_alloc | apply pw_below_drewN | apply below_drew1 | refine below_set ?_ GE270.out | refine below_set ?_ GE276.out) | exact HB.out)) hb)
            clear HO_271001
            clear BK270
            clear BK276
            clear HB
            have HO_271001 := n0_
            have BK270 := n1_
            have BK276 := n2_
            have HB := n3_
            clear n0_ n1_ n2_ n3_
            (try clear hb)
            (try clear hb2)
            (try clear hk)
            (try clear hi)
            refine hK.out _ _ ⟨(blk_cell BK276.out 0).trans rfl, (blk_cell BK276.out 1).trans rfl, (blk_cell BK276.out 2).trans rfl, (blk_cell BK276.out 3).trans rfl, (blk_cell BK276.out 4).trans rfl, (blk_cell BK276.out 5).trans rfl, (blk_cell BK276.out 6).trans rfl⟩ (fun hHeld => ?_)
            clear hK K
            refine norm_ (a' := ?_) ?_ ?_
            rotate_left
            ·
             show Act.put _ (some 65) _ = _
             simp only [Act.put, List.setIfInBounds_toArray, List.set_cons_zero, List.set_cons_succ, i64_w, i32_w]
             rfl
            refine pure_ (i := 31) (N := some 68) (v := ?_) (a' := ?_) #[true, true, true, true, true, true, true, true, true, true, true, true, true, true, true, true, true, true, true, true, true, true, true, true, true, true, true, true, true, true, true, true, true, true, false, false, false] rfl rfl (any_of HT_.out (by kernel_rfl)) (fun _ _ _ h => h) (Or.inl ⟨by rfl, ?_⟩) ?_ ?_
            rotate_left
            ·
             intro w'
             go_simp
             with_reducible rfl
            rotate_left
            ·
             simp only [Act.put, List.setIfInBounds_toArray, List.set_cons_zero, List.set_cons_succ, i64_w, i32_w]
             rfl
            refine pure_ (i := 34) (N := some 71) (v := ?_) (a' := ?_) #[true, true, true, true, true, true, true, true, true, true, true, true, true, true, true, true, true, true, true, true, true, true, true, true, true, true, true, true, true, true, true, true, true, true, true, false, false] rfl rfl (any_of HT_.out (by kernel_rfl)) (fun _ _ _ h => h) (Or.inl ⟨by rfl, ?_⟩) ?_ ?_
            rotate_left
            ·
             intro w'
             go_simp
             with_reducible rfl
            rotate_left
            ·
             simp only [Act.put, List.setIfInBounds_toArray, List.set_cons_zero, List.set_cons_succ, i64_w, i32_w]
             rfl
            refine pure_ (i := 35) (N := some 72) (v := ?_) (a' := ?_) #[true, true, true, true, true, true, true, true, true, true, true, true, true, true, true, true, true, true, true, true, true, true, true, true, true, true, true, true, true, true, true, true, true, true, true, true, false] rfl rfl (any_of HT_.out (by kernel_rfl)) (fun _ _ _ h => h) (Or.inl ⟨by rfl, ?_⟩) ?_ ?_
            rotate_left
            ·
             intro w'
             go_simp
             with_reducible rfl
            rotate_left
            ·
             simp only [Act.put, List.setIfInBounds_toArray, List.set_cons_zero, List.set_cons_succ, i64_w, i32_w]
             rfl
            refine pure_ (i := 36) (N := some 73) (v := ?_) (a' := ?_) #[true, true, true, true, true, true, true, true, true, true, true, true, true, true, true, true, true, true, true, true, true, true, true, true, true, true, true, true, true, true, true, true, true, true, true, true, true] rfl rfl (any_of HT_.out (by kernel_rfl)) (fun _ _ _ h => h) (Or.inl ⟨by rfl, ?_⟩) ?_ ?_
            rotate_left
            ·
             intro w'
             go_simp
             with_reducible rfl
            rotate_left
            ·
             simp only [Act.put, List.setIfInBounds_toArray, List.set_cons_zero, List.set_cons_succ, i64_w, i32_w]
             rfl
            refine done_ (done_of HT_.out (by kernel_rfl)) ?_
            try go_wp2
            go_meet
            case rel => exact ⟨_, (decide ((IntKind.u64.wrap ((IntKind.u64.wrap (t279 - ((rd_T32 t252 x6_1).f3))) - ((rd_T32 t252 x6_1).f5))) ≥ 256)), (by first | rfl | (simp; done) | (simp [*]; done)), H', ⟨by have := HK1.out; first | omega | exact Nat.le_refl _⟩, ⟨by (with_reducible repeat (first | apply Kd.R_alloc | apply Kd.R_drewN | apply Kd.R_drew)); first | exact HO_271001.out | exact Kd.R_mono HO_271001.out (fun k_ hk_ => own_len hk_)⟩, ⟨by (with_reducible repeat (first | refine blk_drewN ?_ _ | refine blk_drew ?_ | refine blk_alloc ?_ _)); exact BK270.out⟩, ⟨by (with_reducible repeat (first | refine blk_drewN ?_ _ | refine blk_drew ?_ | refine blk_alloc ?_ _)); exact BK276.out⟩, ⟨by repeat (first | (with_reducible first | exact HB.out | apply below_alloc | apply pw_below_drewN | apply below_drew1 | refine below_set ?_ GE270.out | refine below_set ?_ GE276.out) | exact HB.out)⟩⟩
          ·
           rw [if_neg c22] at H
           have c22b0 : ((Int.tmod t277 256) == 0) = false := beq_eq_false_iff_ne.mpr c22
           have c22b1 : ((Int.tmod t277 256) != 0) = true := bne_iff_ne.mpr c22
           have H' := Aside0.mk H
           clear H
           try go_wp2
           have n0_ : Aside0 (Kd.R k32 32 (((((((w14.setCell ⟨gb276, 0, none⟩ (.int .u32 ((rd_T32 t252 x6_1).f0))).setCell ⟨gb276, 1, none⟩ (.int .u32 ((rd_T32 t252 x6_1).f1))).setCell ⟨gb276, 2, none⟩ (.int .u64 ((rd_T32 t252 x6_1).f2))).setCell ⟨gb276, 3, none⟩ (.int .u64 ((rd_T32 t252 x6_1).f3))).setCell ⟨gb276, 4, none⟩ (.int .u64 ((rd_T32 t252 x6_1).f4))).setCell ⟨gb276, 5, none⟩ (.int .u64 ((rd_T32 t252 x6_1).f5))).setCell ⟨gb276, 6, none⟩ (.int .u64 ((rd_T32 t252 x6_1).f6))) w.heap.size (fun k_ => k_ ≠ gb276) (.slice (some ad275) t252.length co8) t252) := ⟨by (with_reducible repeat (first | apply Kd.R_alloc | apply Kd.R_drewN | apply Kd.R_drew)); exact Kd.R_mono (Kd.R_far (p := ⟨gb276, 6, none⟩) (Kd.R_far (p := ⟨gb276, 5, none⟩) (Kd.R_far (p := ⟨gb276, 4, none⟩) (Kd.R_far (p := ⟨gb276, 3, none⟩) (Kd.R_far (p := ⟨gb276, 2, none⟩) (Kd.R_far (p := ⟨gb276, 1, none⟩) (Kd.R_far (p := ⟨gb276, 0, none⟩) (Kd.R_mono HO_271001.out (fun k_ hk => (⟨hk, hk.2⟩ : _ ∧ k_ ≠ gb276))) (fun _ hk => hk.2) (.int .u32 ((rd_T32 t252 x6_1).f0))) (fun _ hk => hk.2) (.int .u32 ((rd_T32 t252 x6_1).f1))) (fun _ hk => hk.2) (.int .u64 ((rd_T32 t252 x6_1).f2))) (fun _ hk => hk.2) (.int .u64 ((rd_T32 t252 x6_1).f3))) (fun _ hk => hk.2) (.int .u64 ((rd_T32 t252 x6_1).f4))) (fun _ hk => hk.2) (.int .u64 ((rd_T32 t252 x6_1).f5))) (fun _ hk => hk.2) (.int .u64 ((rd_T32 t252 x6_1).f6))) (fun _ hk => hk.1.2)⟩
           have n1_ : Aside0 ((((((((w14.setCell ⟨gb276, 0, none⟩ (.int .u32 ((rd_T32 t252 x6_1).f0))).setCell ⟨gb276, 1, none⟩ (.int .u32 ((rd_T32 t252 x6_1).f1))).setCell ⟨gb276, 2, none⟩ (.int .u64 ((rd_T32 t252 x6_1).f2))).setCell ⟨gb276, 3, none⟩ (.int .u64 ((rd_T32 t252 x6_1).f3))).setCell ⟨gb276, 4, none⟩ (.int .u64 ((rd_T32 t252 x6_1).f4))).setCell ⟨gb276, 5, none⟩ (.int .u64 ((rd_T32 t252 x6_1).f5))).setCell ⟨gb276, 6, none⟩ (.int .u64 ((rd_T32 t252 x6_1).f6))).heap[gb270]? = some (.cells #[.int .u16 t251, .slice (some ad275) t252.length co8, .int .u32 t255, .int .u32 t256, .int .u64 t257, .int .u64 t258, .int .u64 t259, .int .u64 t260, .int .u64 t261, .int .u32 t262, .int .u32 t263, .int .u64 t264, .int .u64 t265, .int .u64 t266, .int .u64 t267, .int .u64 t268] 37 (0, 0))) := ⟨by (with_reducible repeat (first | refine blk_drewN ?_ _ | refine blk_drew ?_ | refine blk_alloc ?_ _)); refine blk_far ?_ NB270_276.out _; (with_reducible repeat (first | refine blk_drewN ?_ _ | refine blk_drew ?_ | refine blk_alloc ?_ _)); refine blk_far ?_ NB270_276.out _; (with_reducible repeat (first | refine blk_drewN ?_ _ | refine blk_drew ?_ | refine blk_alloc ?_ _)); refine blk_far ?_ NB270_276.out _; (with_reducible repeat (first | refine blk_drewN ?_ _ | refine blk_drew ?_ | refine blk_alloc ?_ _)); refine blk_far ?_ NB270_276.out _; (with_reducible repeat (first | refine blk_drewN ?_ _ | refine blk_drew ?_ | refine blk_alloc ?_ _)); refine blk_far ?_ NB270_276.out _; (with_reducible repeat (first | refine blk_drewN ?_ _ | refine blk_drew ?_ | refine blk_alloc ?_ _)); refine blk_far ?_ NB270_276.out _; (with_reducible repeat (first | refine blk_drewN ?_ _ | refine blk_drew ?_ | refine blk_alloc ?_ _)); refine blk_far ?_ NB270_276.out _; (with_reducible repeat (first | refine blk_drewN ?_ _ | refine blk_drew ?_ | refine blk_alloc ?_ _)); exact BK270.out⟩
           have n2_ : Aside0 ((((((((w14.setCell ⟨gb276, 0, none⟩ (.int .u32 ((rd_T32 t252 x6_1).f0))).setCell ⟨gb276, 1, none⟩ (.int .u32 ((rd_T32 t252 x6_1).f1))).setCell ⟨gb276, 2, none⟩ (.int .u64 ((rd_T32 t252 x6_1).f2))).setCell ⟨gb276, 3, none⟩ (.int .u64 ((rd_T32 t252 x6_1).f3))).setCell ⟨gb276, 4, none⟩ (.int .u64 ((rd_T32 t252 x6_1).f4))).setCell ⟨gb276, 5, none⟩ (.int .u64 ((rd_T32 t252 x6_1).f5))).setCell ⟨gb276, 6, none⟩ (.int .u64 ((rd_T32 t252 x6_1).f6))).heap[gb276]? = some (.cells #[.int .u32 ((rd_T32 t252 x6_1).f0), .int .u32 ((rd_T32 t252 x6_1).f1), .int .u64 ((rd_T32 t252 x6_1).f2), .int .u64 ((rd_T32 t252 x6_1).f3), .int .u64 ((rd_T32 t252 x6_1).f4), .int .u64 ((rd_T32 t252 x6_1).f5), .int .u64 ((rd_T32 t252 x6_1).f6)] 32 (0, 0))) := ⟨by (with_reducible repeat (first | refine blk_drewN ?_ _ | refine blk_drew ?_ | refine blk_alloc ?_ _)); refine blk_put (cs := #[.int .u32 ((rd_T32 t252 x6_1).f0), .int .u32 ((rd_T32 t252 x6_1).f1), .int .u64 ((rd_T32 t252 x6_1).f2), .int .u64 ((rd_T32 t252 x6_1).f3), .int .u64 ((rd_T32 t252 x6_1).f4), .int .u64 ((rd_T32 t252 x6_1).f5), .int .u64 0]) ?_ 6 _ rfl; (with_reducible repeat (first | refine blk_drewN ?_ _ | refine blk_drew ?_ | refine blk_alloc ?_ _)); refine blk_put (cs := #[.int .u32 ((rd_T32 t252 x6_1).f0), .int .u32 ((rd_T32 t252 x6_1).f1), .int .u64 ((rd_T32 t252 x6_1).f2), .int .u64 ((rd_T32 t252 x6_1).f3), .int .u64 ((rd_T32 t252 x6_1).f4), .int .u64 0, .int .u64 0]) ?_ 5 _ rfl; (with_reducible repeat (first | refine blk_drewN ?_ _ | refine blk_drew ?_ | refine blk_alloc ?_ _)); refine blk_put (cs := #[.int .u32 ((rd_T32 t252 x6_1).f0), .int .u32 ((rd_T32 t252 x6_1).f1), .int .u64 ((rd_T32 t252 x6_1).f2), .int .u64 ((rd_T32 t252 x6_1).f3), .int .u64 0, .int .u64 0, .int .u64 0]) ?_ 4 _ rfl; (with_reducible repeat (first | refine blk_drewN ?_ _ | refine blk_drew ?_ | refine blk_alloc ?_ _)); refine blk_put (cs := #[.int .u32 ((rd_T32 t252 x6_1).f0), .int .u32 ((rd_T32 t252 x6_1).f1), .int .u64 ((rd_T32 t252 x6_1).f2), .int .u64 0, .int .u64 0, .int .u64 0, .int .u64 0]) ?_ 3 _ rfl; (with_reducible repeat (first | refine blk_drewN ?_ _ | refine blk_drew ?_ | refine blk_alloc ?_ _)); refine blk_put (cs := #[.int .u32 ((rd_T32 t252 x6_1).f0), .int .u32 ((rd_T32 t252 x6_1).f1), .int .u64 0, .int .u64 0, .int .u64 0, .int .u64 0, .int .u64 0]) ?_ 2 _ rfl; (with_reducible repeat (first | refine blk_drewN ?_ _ | refine blk_drew ?_ | refine blk_alloc ?_ _)); refine blk_put (cs := #[.int .u32 ((rd_T32 t252 x6_1).f0), .int .u32 0, .int .u64 0, .int .u64 0, .int .u64 0, .int .u64 0, .int .u64 0]) ?_ 1 _ rfl; (with_reducible repeat (first | refine blk_drewN ?_ _ | refine blk_drew ?_ | refine blk_alloc ?_ _)); refine blk_put (cs := #[.int .u32 0, .int .u32 0, .int .u64 0, .int .u64 0, .int .u64 0, .int .u64 0, .int .u64 0]) ?_ 0 _ rfl; (with_reducible repeat (first | refine blk_drewN ?_ _ | refine blk_drew ?_ | refine blk_alloc ?_ _)); exact BK276.out⟩
           have n3_ : Aside0 (Below w.heap.size w (((((((w14.setCell ⟨gb276, 0, none⟩ (.int .u32 ((rd_T32 t252 x6_1).f0))).setCell ⟨gb276, 1, none⟩ (.int .u32 ((rd_T32 t252 x6_1).f1))).setCell ⟨gb276, 2, none⟩ (.int .u64 ((rd_T32 t252 x6_1).f2))).setCell ⟨gb276, 3, none⟩ (.int .u64 ((rd_T32 t252 x6_1).f3))).setCell ⟨gb276, 4, none⟩ (.int .u64 ((rd_T32 t252 x6_1).f4))).setCell ⟨gb276, 5, none⟩ (.int .u64 ((rd_T32 t252 x6_1).f5))).setCell ⟨gb276, 6, none⟩ (.int .u64 ((rd_T32 t252 x6_1).f6)))) := ⟨by repeat (first | (with_reducible first | exact HB.out | apply below_alloc | apply pw_below_drewN | apply below_drew1 | refine below_set ?_ GE270.out | refine below_set ?_ GE276.out) | exact HB.out)⟩
           (try clear HO_271001)
           (try clear BK270)
           (try clear BK276)
           (try clear HB)
           generalize (((((((w14.setCell ⟨gb276, 0, none⟩ (.int .u32 ((rd_T32 t252 x6_1).f0))).setCell ⟨gb276, 1, none⟩ (.int .u32 ((rd_T32 t252 x6_1).f1))).setCell ⟨gb276, 2, none⟩ (.int .u64 ((rd_T32 t252 x6_1).f2))).setCell ⟨gb276, 3, none⟩ (.int .u64 ((rd_T32 t252 x6_1).f3))).setCell ⟨gb276, 4, none⟩ (.int .u64 ((rd_T32 t252 x6_1).f4))).setCell ⟨gb276, 5, none⟩ (.int .u64 ((rd_T32 t252 x6_1).f5))).setCell ⟨gb276, 6, none⟩ (.int .u64 ((rd_T32 t252 x6_1).f6))) = w35 at n0_ n1_ n2_ n3_ ⊢
           have HO_271001 := n0_
           have BK270 := n1_
           have BK276 := n2_
           have HB := n3_
           clear n0_ n1_ n2_ n3_
           have n0_ := Aside0.mk (Kd.R_drew HO_271001.out)
           have n1_ := Aside0.mk (blk_drew BK270.out)
           have n2_ := Aside0.mk (blk_drew BK276.out)
           have n3_ := Aside0.mk (below_drew1 HB.out)
           clear HO_271001
           clear BK270
           clear BK276
           clear HB
           have HO_271001 := n0_
           have BK270 := n1_
           have BK276 := n2_
           have HB := n3_
           clear n0_ n1_ n2_ n3_
           refine start_ (n := 37) (S := fun w' => w'.cell? ⟨gb276, 0, none⟩ = some (.int .u32 ((rd_T32 t252 x6_1).f0)) ∧ w'.cell? ⟨gb276, 1, none⟩ = some (.int .u32 ((rd_T32 t252 x6_1).f1)) ∧ w'.cell? ⟨gb276, 2, none⟩ = some (.int .u64 ((rd_T32 t252 x6_1).f2)) ∧ w'.cell? ⟨gb276, 3, none⟩ = some (.int .u64 ((rd_T32 t252 x6_1).f3)) ∧ w'.cell? ⟨gb276, 4, none⟩ = some (.int .u64 ((rd_T32 t252 x6_1).f4)) ∧ w'.cell? ⟨gb276, 5, none⟩ = some (.int .u64 ((rd_T32 t252 x6_1).f5)) ∧ w'.cell? ⟨gb276, 6, none⟩ = some (.int .u64 ((rd_T32 t252 x6_1).f6))) (ds := []) #[false, false, false, false, false, false, false, false, false, false, false, false, false, false, false, false, false, false, false, false, false, false, false, false, false, false, false, false, false, false, false, false, false, false, false, false, false] (by kernel_rfl) rfl rfl ⟨(blk_cell BK276.out 0).trans rfl, (blk_cell BK276.out 1).trans rfl, (blk_cell BK276.out 2).trans rfl, (blk_cell BK276.out 3).trans rfl, (blk_cell BK276.out 4).trans rfl, (blk_cell BK276.out 5).trans rfl, (blk_cell BK276.out 6).trans rfl⟩ (fun hHeld => ?_); refine with_tabW messuagelaw08_HeadApart.tab11 messuagelaw08_HeadApart.bits11 (fun HT_ HW_ => ?_)
           generalize w35.drew = w36 at HO_271001 BK270 BK276 HB hHeld ⊢
           refine pure_ (i := 0) (N := some 37) (v := ?_) (a' := ?_) #[true, false, false, false, false, false, false, false, false, false, false, false, false, false, false, false, false, false, false, false, false, false, false, false, false, false, false, false, false, false, false, false, false, false, false, false, false] rfl rfl (any_of HT_.out (by kernel_rfl)) (fun _ _ _ h => h) (Or.inl ⟨by rfl, ?_⟩) ?_ ?_
           rotate_left
           ·
            intro w'
            go_simp
            with_reducible rfl
           rotate_left
           ·
            simp only [Act.put, List.setIfInBounds_toArray, List.set_cons_zero, List.set_cons_succ, i64_w, i32_w]
            rfl
           refine pure_ (i := 2) (N := some 39) (v := ?_) (a' := ?_) #[true, false, true, false, false, false, false, false, false, false, false, false, false, false, false, false, false, false, false, false, false, false, false, false, false, false, false, false, false, false, false, false, false, false, false, false, false] rfl rfl (any_of HT_.out (by kernel_rfl)) (fun _ _ _ h => h) (Or.inl ⟨by rfl, ?_⟩) ?_ ?_
           rotate_left
           ·
            intro w'
            go_simp
            with_reducible rfl
           rotate_left
           ·
            simp only [Act.put, List.setIfInBounds_toArray, List.set_cons_zero, List.set_cons_succ, i64_w, i32_w]
            rfl
           refine take_ (i := 1) (N := some 38) (v := ?_) (a' := ?_) #[true, true, true, false, false, false, false, false, false, false, false, false, false, false, false, false, false, false, false, false, false, false, false, false, false, false, false, false, false, false, false, false, false, false, false, false, false] rfl rfl (take_ofW HT_.out HW_.out (by kernel_rfl)) (fun _ _ _ h => h) (Or.inl ⟨by rfl, ?_⟩) hHeld ?_ ?_
           rotate_left
           ·
            rintro w' ⟨s0, s1, s2, s3, s4, s5, s6⟩
            go_simp
            with_reducible rfl
           rotate_left
           ·
            simp only [Act.put, List.setIfInBounds_toArray, List.set_cons_zero, List.set_cons_succ, i64_w, i32_w]
            rfl
           refine pure_ (i := 3) (N := some 40) (v := ?_) (a' := ?_) #[true, true, true, true, false, false, false, false, false, false, false, false, false, false, false, false, false, false, false, false, false, false, false, false, false, false, false, false, false, false, false, false, false, false, false, false, false] rfl rfl (any_of HT_.out (by kernel_rfl)) (fun _ _ _ h => h) (Or.inl ⟨by rfl, ?_⟩) ?_ ?_
           rotate_left
           ·
            intro w'
            go_simp
            with_reducible rfl
           rotate_left
           ·
            simp only [Act.put, List.setIfInBounds_toArray, List.set_cons_zero, List.set_cons_succ, i64_w, i32_w]
            rfl
           refine pure_ (i := 4) (N := some 41) (v := ?_) (a' := ?_) #[true, true, true, true, true, false, false, false, false, false, false, false, false, false, false, false, false, false, false, false, false, false, false, false, false, false, false, false, false, false, false, false, false, false, false, false, false] rfl rfl (any_of HT_.out (by kernel_rfl)) (fun _ _ _ h => h) (Or.inl ⟨by rfl, ?_⟩) ?_ ?_
           rotate_left
           ·
            intro w'
            go_simp
            with_reducible rfl
           rotate_left
           ·
            simp only [Act.put, List.setIfInBounds_toArray, List.set_cons_zero, List.set_cons_succ, i64_w, i32_w]
            rfl
           refine pure_ (i := 5) (N := some 42) (v := ?_) (a' := ?_) #[true, true, true, true, true, true, false, false, false, false, false, false, false, false, false, false, false, false, false, false, false, false, false, false, false, false, false, false, false, false, false, false, false, false, false, false, false] rfl rfl (any_of HT_.out (by kernel_rfl)) (fun _ _ _ h => h) (Or.inl ⟨by rfl, ?_⟩) ?_ ?_
           rotate_left
           ·
            intro w'
            go_simp
            with_reducible rfl
           rotate_left
           ·
            simp only [Act.put, List.setIfInBounds_toArray, List.set_cons_zero, List.set_cons_succ, i64_w, i32_w]
            rfl
           refine take_ (i := 6) (N := some 43) (v := ?_) (a' := ?_) #[true, true, true, true, true, true, true, false, false, false, false, false, false, false, false, false, false, false, false, false, false, false, false, false, false, false, false, false, false, false, false, false, false, false, false, false, false] rfl rfl (take_ofW HT_.out HW_.out (by kernel_rfl)) (fun _ _ _ h => h) (Or.inl ⟨by rfl, ?_⟩) hHeld ?_ ?_
           rotate_left
           ·
            rintro w' ⟨s0, s1, s2, s3, s4, s5, s6⟩
            go_simp
            with_reducible rfl
           rotate_left
           ·
            simp only [Act.put, List.setIfInBounds_toArray, List.set_cons_zero, List.set_cons_succ, i64_w, i32_w]
            rfl
           refine pure_ (i := 7) (N := some 44) (v := ?_) (a' := ?_) #[true, true, true, true, true, true, true, true, false, false, false, false, false, false, false, false, false, false, false, false, false, false, false, false, false, false, false, false, false, false, false, false, false, false, false, false, false] rfl rfl (any_of HT_.out (by kernel_rfl)) (fun _ _ _ h => h) (Or.inl ⟨by rfl, ?_⟩) ?_ ?_
           rotate_left
           ·
            intro w'
            go_simp
            with_reducible rfl
           rotate_left
           ·
            simp only [Act.put, List.setIfInBounds_toArray, List.set_cons_zero, List.set_cons_succ, i64_w, i32_w]
            rfl
           refine pure_ (i := 8) (N := some 45) (v := ?_) (a' := ?_) #[true, true, true, true, true, true, true, true, true, false, false, false, false, false, false, false, false, false, false, false, false, false, false, false, false, false, false, false, false, false, false, false, false, false, false, false, false] rfl rfl (any_of HT_.out (by kernel_rfl)) (fun _ _ _ h => h) (Or.inl ⟨by rfl, ?_⟩) ?_ ?_
           rotate_left
           ·
            intro w'
            go_simp
            with_reducible rfl
           rotate_left
           ·
            simp only [Act.put, List.setIfInBounds_toArray, List.set_cons_zero, List.set_cons_succ, i64_w, i32_w]
            rfl
           refine pure_ (i := 9) (N := some 46) (v := ?_) (a' := ?_) #[true, true, true, true, true, true, true, true, true, true, false, false, false, false, false, false, false, false, false, false, false, false, false, false, false, false, false, false, false, false, false, false, false, false, false, false, false] rfl rfl (any_of HT_.out (by kernel_rfl)) (fun _ _ _ h => h) (Or.inl ⟨by rfl, ?_⟩) ?_ ?_
           rotate_left
           ·
            intro w'
            go_simp
            with_reducible rfl
           rotate_left
           ·
            simp only [Act.put, List.setIfInBounds_toArray, List.set_cons_zero, List.set_cons_succ, i64_w, i32_w]
            rfl
           refine pure_ (i := 10) (N := some 47) (v := ?_) (a' := ?_) #[true, true, true, true, true, true, true, true, true, true, true, false, false, false, false, false, false, false, false, false, false, false, false, false, false, false, false, false, false, false, false, false, false, false, false, false, false] rfl rfl (any_of HT_.out (by kernel_rfl)) (fun _ _ _ h => h) (Or.inl ⟨by rfl, ?_⟩) ?_ ?_
           rotate_left
           ·
            intro w'
            go_simp
            with_reducible rfl
           rotate_left
           ·
            simp only [Act.put, List.setIfInBounds_toArray, List.set_cons_zero, List.set_cons_succ, i64_w, i32_w]
            rfl
           refine take_ (i := 11) (N := some 48) (v := ?_) (a' := ?_) #[true, true, true, true, true, true, true, true, true, true, true, true, false, false, false, false, false, false, false, false, false, false, false, false, false, false, false, false, false, false, false, false, false, false, false, false, false] rfl rfl (take_ofW HT_.out HW_.out (by kernel_rfl)) (fun _ _ _ h => h) (Or.inl ⟨by rfl, ?_⟩) hHeld ?_ ?_
           rotate_left
           ·
            rintro w' ⟨s0, s1, s2, s3, s4, s5, s6⟩
            go_simp
            with_reducible rfl
           rotate_left
           ·
            simp only [Act.put, List.setIfInBounds_toArray, List.set_cons_zero, List.set_cons_succ, i64_w, i32_w]
            rfl
           refine one_ (i := 12) (N := some 49) #[true, true, true, true, true, true, true, true, true, true, true, true, true, false, false, false, false, false, false, false, false, false, false, false, false, false, false, false, false, false, false, false, false, false, false, false, false] rfl rfl (one_of HT_.out (by kernel_rfl)) (by decide) (fun K hK => ?_)
           refine goes_ Try.func15 (by kernel_rfl) rfl #[.agg #[.int .u32 ((rd_T32 t252 x6_1).f0), .int .u32 ((rd_T32 t252 x6_1).f1), .int .u64 ((rd_T32 t252 x6_1).f2), .int .u64 ((rd_T32 t252 x6_1).f3), .int .u64 ((rd_T32 t252 x6_1).f4), .int .u64 ((rd_T32 t252 x6_1).f5), .int .u64 ((rd_T32 t252 x6_1).f6)]] (by rfl) rfl rfl (by (try simp only [List.map_toArray, List.map_cons, List.map_nil]); first | done | rfl | (simp only [List.length_drop, List.length_take]; rfl)) ?_
           with_reducible refine (head_End.calls ((rd_T32 t252 x6_1).f0) ((rd_T32 t252 x6_1).f1) ((rd_T32 t252 x6_1).f2) ((rd_T32 t252 x6_1).f3) ((rd_T32 t252 x6_1).f4) ((rd_T32 t252 x6_1).f5) ((rd_T32 t252 x6_1).f6) t277 _ A21.out).mono ?_
           rintro e w37 ⟨rfl, hb⟩
           refine ⟨_, rfl, ?_⟩
           have n0_ := Aside0.mk (Kd.R_below (by (with_reducible repeat (first | apply Kd.R_alloc | apply Kd.R_drewN | apply Kd.R_drew)); exact HO_271001.out) hb)
           have n1_ := Aside0.mk (blk_below (g := gb270) (o := .cells #[.int .u16 t251, .slice (some ad275) t252.length co8, .int .u32 t255, .int .u32 t256, .int .u64 t257, .int .u64 t258, .int .u64 t259, .int .u64 t260, .int .u64 t261, .int .u32 t262, .int .u32 t263, .int .u64 t264, .int .u64 t265, .int .u64 t266, .int .u64 t267, .int .u64 t268] 37 (0, 0)) (by (with_reducible repeat (first | refine blk_drewN ?_ _ | refine blk_drew ?_ | refine blk_alloc ?_ _)); exact BK270.out) hb)
           have n2_ := Aside0.mk (blk_below (g := gb276) (o := .cells #[.int .u32 ((rd_T32 t252 x6_1).f0), .int .u32 ((rd_T32 t252 x6_1).f1), .int .u64 ((rd_T32 t252 x6_1).f2), .int .u64 ((rd_T32 t252 x6_1).f3), .int .u64 ((rd_T32 t252 x6_1).f4), .int .u64 ((rd_T32 t252 x6_1).f5), .int .u64 ((rd_T32 t252 x6_1).f6)] 32 (0, 0)) (by (with_reducible repeat (first | refine blk_drewN ?_ _ | refine blk_drew ?_ | refine blk_alloc ?_ _)); exact BK276.out) hb)
           have n3_ := Aside0.mk (below_step (by repeat (first | (with_reducible first | exact HB.out | apply below_alloc | apply pw_below_drewN | apply below_drew1 | refine below_set ?_ GE270.out | refine below_set ?_ GE276.out) | exact HB.out)) hb)
           clear HO_271001
           clear BK270
           clear BK276
           clear HB
           have HO_271001 := n0_
           have BK270 := n1_
           have BK276 := n2_
           have HB := n3_
           clear n0_ n1_ n2_ n3_
           (try clear hb)
           (try clear hb2)
           (try clear hk)
           (try clear hi)
           refine hK.out _ _ ⟨(blk_cell BK276.out 0).trans rfl, (blk_cell BK276.out 1).trans rfl, (blk_cell BK276.out 2).trans rfl, (blk_cell BK276.out 3).trans rfl, (blk_cell BK276.out 4).trans rfl, (blk_cell BK276.out 5).trans rfl, (blk_cell BK276.out 6).trans rfl⟩ (fun hHeld => ?_)
           clear hK K
           refine norm_ (a' := ?_) ?_ ?_
           rotate_left
           ·
            show Act.put _ (some 49) _ = _
            simp only [Act.put, List.setIfInBounds_toArray, List.set_cons_zero, List.set_cons_succ, i64_w, i32_w]
            rfl
           refine pure_ (i := 13) (N := some 50) (v := ?_) (a' := ?_) #[true, true, true, true, true, true, true, true, true, true, true, true, true, true, false, false, false, false, false, false, false, false, false, false, false, false, false, false, false, false, false, false, false, false, false, false, false] rfl rfl (any_of HT_.out (by kernel_rfl)) (fun _ _ _ h => h) (Or.inl ⟨by rfl, ?_⟩) ?_ ?_
           rotate_left
           ·
            intro w'
            go_simp
            with_reducible rfl
           rotate_left
           ·
            simp only [Act.put, List.setIfInBounds_toArray, List.set_cons_zero, List.set_cons_succ, i64_w, i32_w]
            rfl
           refine pure_ (i := 14) (N := some 51) (v := ?_) (a' := ?_) #[true, true, true, true, true, true, true, true, true, true, true, true, true, true, true, false, false, false, false, false, false, false, false, false, false, false, false, false, false, false, false, false, false, false, false, false, false] rfl rfl (any_of HT_.out (by kernel_rfl)) (fun _ _ _ h => h) (Or.inl ⟨by rfl, ?_⟩) ?_ ?_
           rotate_left
           ·
            intro w'
            go_simp
            with_reducible rfl
           rotate_left
           ·
            simp only [Act.put, List.setIfInBounds_toArray, List.set_cons_zero, List.set_cons_succ, i64_w, i32_w]
            rfl
           refine pure_ (i := 15) (N := some 52) (v := ?_) (a' := ?_) #[true, true, true, true, true, true, true, true, true, true, true, true, true, true, true, true, false, false, false, false, false, false, false, false, false, false, false, false, false, false, false, false, false, false, false, false, false] rfl rfl (any_of HT_.out (by kernel_rfl)) (fun _ _ _ h => h) (Or.inl ⟨by rfl, ?_⟩) ?_ ?_
           rotate_left
           ·
            intro w'
            go_simp
            with_reducible rfl
           rotate_left
           ·
            simp only [Act.put, List.setIfInBounds_toArray, List.set_cons_zero, List.set_cons_succ, i64_w, i32_w]
            rfl
           refine pure_ (i := 16) (N := some 53) (v := ?_) (a' := ?_) #[true, true, true, true, true, true, true, true, true, true, true, true, true, true, true, true, true, false, false, false, false, false, false, false, false, false, false, false, false, false, false, false, false, false, false, false, false] rfl rfl (any_of HT_.out (by kernel_rfl)) (fun _ _ _ h => h) (Or.inl ⟨by rfl, ?_⟩) ?_ ?_
           rotate_left
           ·
            intro w'
            go_simp
            with_reducible rfl
           rotate_left
           ·
            simp only [Act.put, List.setIfInBounds_toArray, List.set_cons_zero, List.set_cons_succ, i64_w, i32_w]
            rfl
           refine pure_ (i := 17) (N := some 54) (v := undef) (a' := ?_) #[true, true, true, true, true, true, true, true, true, true, true, true, true, true, true, true, true, true, false, false, false, false, false, false, false, false, false, false, false, false, false, false, false, false, false, false, false] rfl rfl (any_of HT_.out (by kernel_rfl)) (fun _ _ _ h => h) (Or.inr ⟨by rfl, rfl⟩) ?_ ?_
           rotate_left
           ·
            simp only [Act.put, List.setIfInBounds_toArray, List.set_cons_zero, List.set_cons_succ, i64_w, i32_w]
            rfl
           refine pure_ (i := 18) (N := some 55) (v := undef) (a' := ?_) #[true, true, true, true, true, true, true, true, true, true, true, true, true, true, true, true, true, true, true, false, false, false, false, false, false, false, false, false, false, false, false, false, false, false, false, false, false] rfl rfl (any_of HT_.out (by kernel_rfl)) (fun _ _ _ h => h) (Or.inr ⟨by rfl, rfl⟩) ?_ ?_
           rotate_left
           ·
            simp only [Act.put, List.setIfInBounds_toArray, List.set_cons_zero, List.set_cons_succ, i64_w, i32_w]
            rfl
           refine pure_ (i := 19) (N := some 56) (v := undef) (a' := ?_) #[true, true, true, true, true, true, true, true, true, true, true, true, true, true, true, true, true, true, true, true, false, false, false, false, false, false, false, false, false, false, false, false, false, false, false, false, false] rfl rfl (any_of HT_.out (by kernel_rfl)) (fun _ _ _ h => h) (Or.inr ⟨by rfl, rfl⟩) ?_ ?_
           rotate_left
           ·
            simp only [Act.put, List.setIfInBounds_toArray, List.set_cons_zero, List.set_cons_succ, i64_w, i32_w]
            rfl
           refine pure_ (i := 20) (N := some 57) (v := undef) (a' := ?_) #[true, true, true, true, true, true, true, true, true, true, true, true, true, true, true, true, true, true, true, true, true, false, false, false, false, false, false, false, false, false, false, false, false, false, false, false, false] rfl rfl (any_of HT_.out (by kernel_rfl)) (fun _ _ _ h => h) (Or.inr ⟨by rfl, rfl⟩) ?_ ?_
           rotate_left
           ·
            simp only [Act.put, List.setIfInBounds_toArray, List.set_cons_zero, List.set_cons_succ, i64_w, i32_w]
            rfl
           refine pure_ (i := 21) (N := some 58) (v := undef) (a' := ?_) #[true, true, true, true, true, true, true, true, true, true, true, true, true, true, true, true, true, true, true, true, true, true, false, false, false, false, false, false, false, false, false, false, false, false, false, false, false] rfl rfl (any_of HT_.out (by kernel_rfl)) (fun _ _ _ h => h) (Or.inr ⟨by rfl, rfl⟩) ?_ ?_
           rotate_left
           ·
            simp only [Act.put, List.setIfInBounds_toArray, List.set_cons_zero, List.set_cons_succ, i64_w, i32_w]
            rfl
           refine pure_ (i := 22) (N := some 59) (v := undef) (a' := ?_) #[true, true, true, true, true, true, true, true, true, true, true, true, true, true, true, true, true, true, true, true, true, true, true, false, false, false, false, false, false, false, false, false, false, false, false, false, false] rfl rfl (any_of HT_.out (by kernel_rfl)) (fun _ _ _ h => h) (Or.inr ⟨by rfl, rfl⟩) ?_ ?_
           rotate_left
           ·
            simp only [Act.put, List.setIfInBounds_toArray, List.set_cons_zero, List.set_cons_succ, i64_w, i32_w]
            rfl
           refine pure_ (i := 23) (N := some 60) (v := undef) (a' := ?_) #[true, true, true, true, true, true, true, true, true, true, true, true, true, true, true, true, true, true, true, true, true, true, true, true, false, false, false, false, false, false, false, false, false, false, false, false, false] rfl rfl (any_of HT_.out (by kernel_rfl)) (fun _ _ _ h => h) (Or.inr ⟨by rfl, rfl⟩) ?_ ?_
           rotate_left
           ·
            simp only [Act.put, List.setIfInBounds_toArray, List.set_cons_zero, List.set_cons_succ, i64_w, i32_w]
            rfl
           refine pure_ (i := 24) (N := some 61) (v := undef) (a' := ?_) #[true, true, true, true, true, true, true, true, true, true, true, true, true, true, true, true, true, true, true, true, true, true, true, true, true, false, false, false, false, false, false, false, false, false, false, false, false] rfl rfl (any_of HT_.out (by kernel_rfl)) (fun _ _ _ h => h) (Or.inr ⟨by rfl, rfl⟩) ?_ ?_
           rotate_left
           ·
            simp only [Act.put, List.setIfInBounds_toArray, List.set_cons_zero, List.set_cons_succ, i64_w, i32_w]
            rfl
           refine pure_ (i := 25) (N := some 62) (v := ?_) (a' := ?_) #[true, true, true, true, true, true, true, true, true, true, true, true, true, true, true, true, true, true, true, true, true, true, true, true, true, true, false, false, false, false, false, false, false, false, false, false, false] rfl rfl (any_of HT_.out (by kernel_rfl)) (fun _ _ _ h => h) (Or.inl ⟨by rfl, ?_⟩) ?_ ?_
           rotate_left
           ·
            intro w'
            go_simp
            with_reducible rfl
           rotate_left
           ·
            simp only [Act.put, List.setIfInBounds_toArray, List.set_cons_zero, List.set_cons_succ, i64_w, i32_w]
            rfl
           refine pure_ (i := 26) (N := some 63) (v := ?_) (a' := ?_) #[true, true, true, true, true, true, true, true, true, true, true, true, true, true, true, true, true, true, true, true, true, true, true, true, true, true, true, false, false, false, false, false, false, false, false, false, false] rfl rfl (any_of HT_.out (by kernel_rfl)) (fun _ _ _ h => h) (Or.inl ⟨by rfl, ?_⟩) ?_ ?_
           rotate_left
           ·
            intro w'
            go_simp
            with_reducible rfl
           rotate_left
           ·
            simp only [Act.put, List.setIfInBounds_toArray, List.set_cons_zero, List.set_cons_succ, i64_w, i32_w]
            rfl
           refine pure_ (i := 27) (N := some 64) (v := undef) (a' := ?_) #[true, true, true, true, true, true, true, true, true, true, true, true, true, true, true, true, true, true, true, true, true, true, true, true, true, true, true, true, false, false, false, false, false, false, false, false, false] rfl rfl (any_of HT_.out (by kernel_rfl)) (fun _ _ _ h => h) (Or.inr ⟨by rfl, rfl⟩) ?_ ?_
           rotate_left
           ·
            simp only [Act.put, List.setIfInBounds_toArray, List.set_cons_zero, List.set_cons_succ, i64_w, i32_w]
            rfl
           refine pure_ (i := 28) (N := some 65) (v := undef) (a' := ?_) #[true, true, true, true, true, true, true, true, true, true, true, true, true, true, true, true, true, true, true, true, true, true, true, true, true, true, true, true, true, false, false, false, false, false, false, false, false] rfl rfl (any_of HT_.out (by kernel_rfl)) (fun _ _ _ h => h) (Or.inr ⟨by rfl, rfl⟩) ?_ ?_
           rotate_left
           ·
            simp only [Act.put, List.setIfInBounds_toArray, List.set_cons_zero, List.set_cons_succ, i64_w, i32_w]
            rfl
           refine pure_ (i := 29) (N := some 66) (v := undef) (a' := ?_) #[true, true, true, true, true, true, true, true, true, true, true, true, true, true, true, true, true, true, true, true, true, true, true, true, true, true, true, true, true, true, false, false, false, false, false, false, false] rfl rfl (any_of HT_.out (by kernel_rfl)) (fun _ _ _ h => h) (Or.inr ⟨by rfl, rfl⟩) ?_ ?_
           rotate_left
           ·
            simp only [Act.put, List.setIfInBounds_toArray, List.set_cons_zero, List.set_cons_succ, i64_w, i32_w]
            rfl
           refine pure_ (i := 30) (N := some 67) (v := undef) (a' := ?_) #[true, true, true, true, true, true, true, true, true, true, true, true, true, true, true, true, true, true, true, true, true, true, true, true, true, true, true, true, true, true, true, false, false, false, false, false, false] rfl rfl (any_of HT_.out (by kernel_rfl)) (fun _ _ _ h => h) (Or.inr ⟨by rfl, rfl⟩) ?_ ?_
           rotate_left
           ·
            simp only [Act.put, List.setIfInBounds_toArray, List.set_cons_zero, List.set_cons_succ, i64_w, i32_w]
            rfl
           refine pure_ (i := 31) (N := some 68) (v := undef) (a' := ?_) #[true, true, true, true, true, true, true, true, true, true, true, true, true, true, true, true, true, true, true, true, true, true, true, true, true, true, true, true, true, true, true, true, false, false, false, false, false] rfl rfl (any_of HT_.out (by kernel_rfl)) (fun _ _ _ h => h) (Or.inr ⟨by rfl, rfl⟩) ?_ ?_
           rotate_left
           ·
            simp only [Act.put, List.setIfInBounds_toArray, List.set_cons_zero, List.set_cons_succ, i64_w, i32_w]
            rfl
           refine pure_ (i := 32) (N := some 69) (v := undef) (a' := ?_) #[true, true, true, true, true, true, true, true, true, true, true, true, true, true, true, true, true, true, true, true, true, true, true, true, true, true, true, true, true, true, true, true, true, false, false, false, false] rfl rfl (any_of HT_.out (by kernel_rfl)) (fun _ _ _ h => h) (Or.inr ⟨by rfl, rfl⟩) ?_ ?_
           rotate_left
           ·
            simp only [Act.put, List.setIfInBounds_toArray, List.set_cons_zero, List.set_cons_succ, i64_w, i32_w]
            rfl
           refine pure_ (i := 33) (N := some 70) (v := undef) (a' := ?_) #[true, true, true, true, true, true, true, true, true, true, true, true, true, true, true, true, true, true, true, true, true, true, true, true, true, true, true, true, true, true, true, true, true, true, false, false, false] rfl rfl (any_of HT_.out (by kernel_rfl)) (fun _ _ _ h => h) (Or.inr ⟨by rfl, rfl⟩) ?_ ?_
           rotate_left
           ·
            simp only [Act.put, List.setIfInBounds_toArray, List.set_cons_zero, List.set_cons_succ, i64_w, i32_w]
            rfl
           refine pure_ (i := 34) (N := some 71) (v := undef) (a' := ?_) #[true, true, true, true, true, true, true, true, true, true, true, true, true, true, true, true, true, true, true, true, true, true, true, true, true, true, true, true, true, true, true, true, true, true, true, false, false] rfl rfl (any_of HT_.out (by kernel_rfl)) (fun _ _ _ h => h) (Or.inr ⟨by rfl, rfl⟩) ?_ ?_
           rotate_left
           ·
            simp only [Act.put, List.setIfInBounds_toArray, List.set_cons_zero, List.set_cons_succ, i64_w, i32_w]
            rfl
           refine pure_ (i := 35) (N := some 72) (v := undef) (a' := ?_) #[true, true, true, true, true, true, true, true, true, true, true, true, true, true, true, true, true, true, true, true, true, true, true, true, true, true, true, true, true, true, true, true, true, true, true, true, false] rfl rfl (any_of HT_.out (by kernel_rfl)) (fun _ _ _ h => h) (Or.inr ⟨by rfl, rfl⟩) ?_ ?_
           rotate_left
           ·
            simp only [Act.put, List.setIfInBounds_toArray, List.set_cons_zero, List.set_cons_succ, i64_w, i32_w]
            rfl
           refine pure_ (i := 36) (N := some 73) (v := ?_) (a' := ?_) #[true, true, true, true, true, true, true, true, true, true, true, true, true, true, true, true, true, true, true, true, true, true, true, true, true, true, true, true, true, true, true, true, true, true, true, true, true] rfl rfl (any_of HT_.out (by kernel_rfl)) (fun _ _ _ h => h) (Or.inl ⟨by rfl, ?_⟩) ?_ ?_
           rotate_left
           ·
            intro w'
            go_simp
            with_reducible rfl
           rotate_left
           ·
            simp only [Act.put, List.setIfInBounds_toArray, List.set_cons_zero, List.set_cons_succ, i64_w, i32_w]
            rfl
           refine done_ (done_of HT_.out (by kernel_rfl)) ?_
           try go_wp2
           go_meet
           case rel => exact ⟨_, (true), (by first | rfl | (simp; done) | (simp [*]; done)), H', ⟨by have := HK1.out; first | omega | exact Nat.le_refl _⟩, ⟨by (with_reducible repeat (first | apply Kd.R_alloc | apply Kd.R_drewN | apply Kd.R_drew)); first | exact HO_271001.out | exact Kd.R_mono HO_271001.out (fun k_ hk_ => own_len hk_)⟩, ⟨by (with_reducible repeat (first | refine blk_drewN ?_ _ | refine blk_drew ?_ | refine blk_alloc ?_ _)); exact BK270.out⟩, ⟨by (with_reducible repeat (first | refine blk_drewN ?_ _ | refine blk_drew ?_ | refine blk_alloc ?_ _)); exact BK276.out⟩, ⟨by repeat (first | (with_reducible first | exact HB.out | apply below_alloc | apply pw_below_drewN | apply below_drew1 | refine below_set ?_ GE270.out | refine below_set ?_ GE276.out) | exact HB.out)⟩⟩
         ·
          rw [if_neg c20] at H
          have c20b0 : ((Int.tmod ((rd_T32 t252 x6_1).f3) 256) == 0) = false := beq_eq_false_iff_ne.mpr c20
          have c20b1 : ((Int.tmod ((rd_T32 t252 x6_1).f3) 256) != 0) = true := bne_iff_ne.mpr c20
          have H' := Aside0.mk H
          clear H
          try go_wp2
          have n0_ : Aside0 (Kd.R k32 32 (((((((w14.setCell ⟨gb276, 0, none⟩ (.int .u32 ((rd_T32 t252 x6_1).f0))).setCell ⟨gb276, 1, none⟩ (.int .u32 ((rd_T32 t252 x6_1).f1))).setCell ⟨gb276, 2, none⟩ (.int .u64 ((rd_T32 t252 x6_1).f2))).setCell ⟨gb276, 3, none⟩ (.int .u64 ((rd_T32 t252 x6_1).f3))).setCell ⟨gb276, 4, none⟩ (.int .u64 ((rd_T32 t252 x6_1).f4))).setCell ⟨gb276, 5, none⟩ (.int .u64 ((rd_T32 t252 x6_1).f5))).setCell ⟨gb276, 6, none⟩ (.int .u64 ((rd_T32 t252 x6_1).f6))) w.heap.size (fun k_ => k_ ≠ gb276) (.slice (some ad275) t252.length co8) t252) := ⟨by (with_reducible repeat (first | apply Kd.R_alloc | apply Kd.R_drewN | apply Kd.R_drew)); exact Kd.R_mono (Kd.R_far (p := ⟨gb276, 6, none⟩) (Kd.R_far (p := ⟨gb276, 5, none⟩) (Kd.R_far (p := ⟨gb276, 4, none⟩) (Kd.R_far (p := ⟨gb276, 3, none⟩) (Kd.R_far (p := ⟨gb276, 2, none⟩) (Kd.R_far (p := ⟨gb276, 1, none⟩) (Kd.R_far (p := ⟨gb276, 0, none⟩) (Kd.R_mono HO_271001.out (fun k_ hk => (⟨hk, hk.2⟩ : _ ∧ k_ ≠ gb276))) (fun _ hk => hk.2) (.int .u32 ((rd_T32 t252 x6_1).f0))) (fun _ hk => hk.2) (.int .u32 ((rd_T32 t252 x6_1).f1))) (fun _ hk => hk.2) (.int .u64 ((rd_T32 t252 x6_1).f2))) (fun _ hk => hk.2) (.int .u64 ((rd_T32 t252 x6_1).f3))) (fun _ hk => hk.2) (.int .u64 ((rd_T32 t252 x6_1).f4))) (fun _ hk => hk.2) (.int .u64 ((rd_T32 t252 x6_1).f5))) (fun _ hk => hk.2) (.int .u64 ((rd_T32 t252 x6_1).f6))) (fun _ hk => hk.1.2)⟩
          have n1_ : Aside0 ((((((((w14.setCell ⟨gb276, 0, none⟩ (.int .u32 ((rd_T32 t252 x6_1).f0))).setCell ⟨gb276, 1, none⟩ (.int .u32 ((rd_T32 t252 x6_1).f1))).setCell ⟨gb276, 2, none⟩ (.int .u64 ((rd_T32 t252 x6_1).f2))).setCell ⟨gb276, 3, none⟩ (.int .u64 ((rd_T32 t252 x6_1).f3))).setCell ⟨gb276, 4, none⟩ (.int .u64 ((rd_T32 t252 x6_1).f4))).setCell ⟨gb276, 5, none⟩ (.int .u64 ((rd_T32 t252 x6_1).f5))).setCell ⟨gb276, 6, none⟩ (.int .u64 ((rd_T32 t252 x6_1).f6))).heap[gb270]? = some (.cells #[.int .u16 t251, .slice (some ad275) t252.length co8, .int .u32 t255, .int .u32 t256, .int .u64 t257, .int .u64 t258, .int .u64 t259, .int .u64 t260, .int .u64 t261, .int .u32 t262, .int .u32 t263, .int .u64 t264, .int .u64 t265, .int .u64 t266, .int .u64 t267, .int .u64 t268] 37 (0, 0))) := ⟨by (with_reducible repeat (first | refine blk_drewN ?_ _ | refine blk_drew ?_ | refine blk_alloc ?_ _)); refine blk_far ?_ NB270_276.out _; (with_reducible repeat (first | refine blk_drewN ?_ _ | refine blk_drew ?_ | refine blk_alloc ?_ _)); refine blk_far ?_ NB270_276.out _; (with_reducible repeat (first | refine blk_drewN ?_ _ | refine blk_drew ?_ | refine blk_alloc ?_ _)); refine blk_far ?_ NB270_276.out _; (with_reducible repeat (first | refine blk_drewN ?_ _ | refine blk_drew ?_ | refine blk_alloc ?_ _)); refine blk_far ?_ NB270_276.out _; (with_reducible repeat (first | refine blk_drewN ?_ _ | refine blk_drew ?_ | refine blk_alloc ?_ _)); refine blk_far ?_ NB270_276.out _; (with_reducible repeat (first | refine blk_drewN ?_ _ | refine blk_drew ?_ | refine blk_alloc ?_ _)); refine blk_far ?_ NB270_276.out _; (with_reducible repeat (first | refine blk_drewN ?_ _ | refine blk_drew ?_ | refine blk_alloc ?_ _)); refine blk_far ?_ NB270_276.out _; (with_reducible repeat (first | refine blk_drewN ?_ _ | refine blk_drew ?_ | refine blk_alloc ?_ _)); exact BK270.out⟩
          have n2_ : Aside0 ((((((((w14.setCell ⟨gb276, 0, none⟩ (.int .u32 ((rd_T32 t252 x6_1).f0))).setCell ⟨gb276, 1, none⟩ (.int .u32 ((rd_T32 t252 x6_1).f1))).setCell ⟨gb276, 2, none⟩ (.int .u64 ((rd_T32 t252 x6_1).f2))).setCell ⟨gb276, 3, none⟩ (.int .u64 ((rd_T32 t252 x6_1).f3))).setCell ⟨gb276, 4, none⟩ (.int .u64 ((rd_T32 t252 x6_1).f4))).setCell ⟨gb276, 5, none⟩ (.int .u64 ((rd_T32 t252 x6_1).f5))).setCell ⟨gb276, 6, none⟩ (.int .u64 ((rd_T32 t252 x6_1).f6))).heap[gb276]? = some (.cells #[.int .u32 ((rd_T32 t252 x6_1).f0), .int .u32 ((rd_T32 t252 x6_1).f1), .int .u64 ((rd_T32 t252 x6_1).f2), .int .u64 ((rd_T32 t252 x6_1).f3), .int .u64 ((rd_T32 t252 x6_1).f4), .int .u64 ((rd_T32 t252 x6_1).f5), .int .u64 ((rd_T32 t252 x6_1).f6)] 32 (0, 0))) := ⟨by (with_reducible repeat (first | refine blk_drewN ?_ _ | refine blk_drew ?_ | refine blk_alloc ?_ _)); refine blk_put (cs := #[.int .u32 ((rd_T32 t252 x6_1).f0), .int .u32 ((rd_T32 t252 x6_1).f1), .int .u64 ((rd_T32 t252 x6_1).f2), .int .u64 ((rd_T32 t252 x6_1).f3), .int .u64 ((rd_T32 t252 x6_1).f4), .int .u64 ((rd_T32 t252 x6_1).f5), .int .u64 0]) ?_ 6 _ rfl; (with_reducible repeat (first | refine blk_drewN ?_ _ | refine blk_drew ?_ | refine blk_alloc ?_ _)); refine blk_put (cs := #[.int .u32 ((rd_T32 t252 x6_1).f0), .int .u32 ((rd_T32 t252 x6_1).f1), .int .u64 ((rd_T32 t252 x6_1).f2), .int .u64 ((rd_T32 t252 x6_1).f3), .int .u64 ((rd_T32 t252 x6_1).f4), .int .u64 0, .int .u64 0]) ?_ 5 _ rfl; (with_reducible repeat (first | refine blk_drewN ?_ _ | refine blk_drew ?_ | refine blk_alloc ?_ _)); refine blk_put (cs := #[.int .u32 ((rd_T32 t252 x6_1).f0), .int .u32 ((rd_T32 t252 x6_1).f1), .int .u64 ((rd_T32 t252 x6_1).f2), .int .u64 ((rd_T32 t252 x6_1).f3), .int .u64 0, .int .u64 0, .int .u64 0]) ?_ 4 _ rfl; (with_reducible repeat (first | refine blk_drewN ?_ _ | refine blk_drew ?_ | refine blk_alloc ?_ _)); refine blk_put (cs := #[.int .u32 ((rd_T32 t252 x6_1).f0), .int .u32 ((rd_T32 t252 x6_1).f1), .int .u64 ((rd_T32 t252 x6_1).f2), .int .u64 0, .int .u64 0, .int .u64 0, .int .u64 0]) ?_ 3 _ rfl; (with_reducible repeat (first | refine blk_drewN ?_ _ | refine blk_drew ?_ | refine blk_alloc ?_ _)); refine blk_put (cs := #[.int .u32 ((rd_T32 t252 x6_1).f0), .int .u32 ((rd_T32 t252 x6_1).f1), .int .u64 0, .int .u64 0, .int .u64 0, .int .u64 0, .int .u64 0]) ?_ 2 _ rfl; (with_reducible repeat (first | refine blk_drewN ?_ _ | refine blk_drew ?_ | refine blk_alloc ?_ _)); refine blk_put (cs := #[.int .u32 ((rd_T32 t252 x6_1).f0), .int .u32 0, .int .u64 0, .int .u64 0, .int .u64 0, .int .u64 0, .int .u64 0]) ?_ 1 _ rfl; (with_reducible repeat (first | refine blk_drewN ?_ _ | refine blk_drew ?_ | refine blk_alloc ?_ _)); refine blk_put (cs := #[.int .u32 0, .int .u32 0, .int .u64 0, .int .u64 0, .int .u64 0, .int .u64 0, .int .u64 0]) ?_ 0 _ rfl; (with_reducible repeat (first | refine blk_drewN ?_ _ | refine blk_drew ?_ | refine blk_alloc ?_ _)); exact BK276.out⟩
          have n3_ : Aside0 (Below w.heap.size w (((((((w14.setCell ⟨gb276, 0, none⟩ (.int .u32 ((rd_T32 t252 x6_1).f0))).setCell ⟨gb276, 1, none⟩ (.int .u32 ((rd_T32 t252 x6_1).f1))).setCell ⟨gb276, 2, none⟩ (.int .u64 ((rd_T32 t252 x6_1).f2))).setCell ⟨gb276, 3, none⟩ (.int .u64 ((rd_T32 t252 x6_1).f3))).setCell ⟨gb276, 4, none⟩ (.int .u64 ((rd_T32 t252 x6_1).f4))).setCell ⟨gb276, 5, none⟩ (.int .u64 ((rd_T32 t252 x6_1).f5))).setCell ⟨gb276, 6, none⟩ (.int .u64 ((rd_T32 t252 x6_1).f6)))) := ⟨by repeat (first | (with_reducible first | exact HB.out | apply below_alloc | apply pw_below_drewN | apply below_drew1 | refine below_set ?_ GE270.out | refine below_set ?_ GE276.out) | exact HB.out)⟩
          (try clear HO_271001)
          (try clear BK270)
          (try clear BK276)
          (try clear HB)
          generalize (((((((w14.setCell ⟨gb276, 0, none⟩ (.int .u32 ((rd_T32 t252 x6_1).f0))).setCell ⟨gb276, 1, none⟩ (.int .u32 ((rd_T32 t252 x6_1).f1))).setCell ⟨gb276, 2, none⟩ (.int .u64 ((rd_T32 t252 x6_1).f2))).setCell ⟨gb276, 3, none⟩ (.int .u64 ((rd_T32 t252 x6_1).f3))).setCell ⟨gb276, 4, none⟩ (.int .u64 ((rd_T32 t252 x6_1).f4))).setCell ⟨gb276, 5, none⟩ (.int .u64 ((rd_T32 t252 x6_1).f5))).setCell ⟨gb276, 6, none⟩ (.int .u64 ((rd_T32 t252 x6_1).f6))) = w38 at n0_ n1_ n2_ n3_ ⊢
          have HO_271001 := n0_
          have BK270 := n1_
          have BK276 := n2_
          have HB := n3_
          clear n0_ n1_ n2_ n3_
          have n0_ := Aside0.mk (Kd.R_drew HO_271001.out)
          have n1_ := Aside0.mk (blk_drew BK270.out)
          have n2_ := Aside0.mk (blk_drew BK276.out)
          have n3_ := Aside0.mk (below_drew1 HB.out)
          clear HO_271001
          clear BK270
          clear BK276
          clear HB
          have HO_271001 := n0_
          have BK270 := n1_
          have BK276 := n2_
          have HB := n3_
          clear n0_ n1_ n2_ n3_
          refine start_ (n := 37) (S := fun w' => w'.cell? ⟨gb276, 0, none⟩ = some (.int .u32 ((rd_T32 t252 x6_1).f0)) ∧ w'.cell? ⟨gb276, 1, none⟩ = some (.int .u32 ((rd_T32 t252 x6_1).f1)) ∧ w'.cell? ⟨gb276, 2, none⟩ = some (.int .u64 ((rd_T32 t252 x6_1).f2)) ∧ w'.cell? ⟨gb276, 3, none⟩ = some (.int .u64 ((rd_T32 t252 x6_1).f3)) ∧ w'.cell? ⟨gb276, 4, none⟩ = some (.int .u64 ((rd_T32 t252 x6_1).f4)) ∧ w'.cell? ⟨gb276, 5, none⟩ = some (.int .u64 ((rd_T32 t252 x6_1).f5)) ∧ w'.cell? ⟨gb276, 6, none⟩ = some (.int .u64 ((rd_T32 t252 x6_1).f6))) (ds := []) #[false, false, false, false, false, false, false, false, false, false, false, false, false, false, false, false, false, false, false, false, false, false, false, false, false, false, false, false, false, false, false, false, false, false, false, false, false] (by kernel_rfl) rfl rfl ⟨(blk_cell BK276.out 0).trans rfl, (blk_cell BK276.out 1).trans rfl, (blk_cell BK276.out 2).trans rfl, (blk_cell BK276.out 3).trans rfl, (blk_cell BK276.out 4).trans rfl, (blk_cell BK276.out 5).trans rfl, (blk_cell BK276.out 6).trans rfl⟩ (fun hHeld => ?_); refine with_tabW messuagelaw08_HeadApart.tab11 messuagelaw08_HeadApart.bits11 (fun HT_ HW_ => ?_)
          generalize w38.drew = w39 at HO_271001 BK270 BK276 HB hHeld ⊢
          refine pure_ (i := 0) (N := some 37) (v := ?_) (a' := ?_) #[true, false, false, false, false, false, false, false, false, false, false, false, false, false, false, false, false, false, false, false, false, false, false, false, false, false, false, false, false, false, false, false, false, false, false, false, false] rfl rfl (any_of HT_.out (by kernel_rfl)) (fun _ _ _ h => h) (Or.inl ⟨by rfl, ?_⟩) ?_ ?_
          rotate_left
          ·
           intro w'
           go_simp
           with_reducible rfl
          rotate_left
          ·
           simp only [Act.put, List.setIfInBounds_toArray, List.set_cons_zero, List.set_cons_succ, i64_w, i32_w]
           rfl
          refine pure_ (i := 2) (N := some 39) (v := ?_) (a' := ?_) #[true, false, true, false, false, false, false, false, false, false, false, false, false, false, false, false, false, false, false, false, false, false, false, false, false, false, false, false, false, false, false, false, false, false, false, false, false] rfl rfl (any_of HT_.out (by kernel_rfl)) (fun _ _ _ h => h) (Or.inl ⟨by rfl, ?_⟩) ?_ ?_
          rotate_left
          ·
           intro w'
           go_simp
           with_reducible rfl
          rotate_left
          ·
           simp only [Act.put, List.setIfInBounds_toArray, List.set_cons_zero, List.set_cons_succ, i64_w, i32_w]
           rfl
          refine take_ (i := 1) (N := some 38) (v := ?_) (a' := ?_) #[true, true, true, false, false, false, false, false, false, false, false, false, false, false, false, false, false, false, false, false, false, false, false, false, false, false, false, false, false, false, false, false, false, false, false, false, false] rfl rfl (take_ofW HT_.out HW_.out (by kernel_rfl)) (fun _ _ _ h => h) (Or.inl ⟨by rfl, ?_⟩) hHeld ?_ ?_
          rotate_left
          ·
           rintro w' ⟨s0, s1, s2, s3, s4, s5, s6⟩
           go_simp
           with_reducible rfl
          rotate_left
          ·
           simp only [Act.put, List.setIfInBounds_toArray, List.set_cons_zero, List.set_cons_succ, i64_w, i32_w]
           rfl
          refine pure_ (i := 3) (N := some 40) (v := ?_) (a' := ?_) #[true, true, true, true, false, false, false, false, false, false, false, false, false, false, false, false, false, false, false, false, false, false, false, false, false, false, false, false, false, false, false, false, false, false, false, false, false] rfl rfl (any_of HT_.out (by kernel_rfl)) (fun _ _ _ h => h) (Or.inl ⟨by rfl, ?_⟩) ?_ ?_
          rotate_left
          ·
           intro w'
           go_simp
           with_reducible rfl
          rotate_left
          ·
           simp only [Act.put, List.setIfInBounds_toArray, List.set_cons_zero, List.set_cons_succ, i64_w, i32_w]
           rfl
          refine pure_ (i := 4) (N := some 41) (v := ?_) (a' := ?_) #[true, true, true, true, true, false, false, false, false, false, false, false, false, false, false, false, false, false, false, false, false, false, false, false, false, false, false, false, false, false, false, false, false, false, false, false, false] rfl rfl (any_of HT_.out (by kernel_rfl)) (fun _ _ _ h => h) (Or.inl ⟨by rfl, ?_⟩) ?_ ?_
          rotate_left
          ·
           intro w'
           go_simp
           with_reducible rfl
          rotate_left
          ·
           simp only [Act.put, List.setIfInBounds_toArray, List.set_cons_zero, List.set_cons_succ, i64_w, i32_w]
           rfl
          refine pure_ (i := 5) (N := some 42) (v := ?_) (a' := ?_) #[true, true, true, true, true, true, false, false, false, false, false, false, false, false, false, false, false, false, false, false, false, false, false, false, false, false, false, false, false, false, false, false, false, false, false, false, false] rfl rfl (any_of HT_.out (by kernel_rfl)) (fun _ _ _ h => h) (Or.inl ⟨by rfl, ?_⟩) ?_ ?_
          rotate_left
          ·
           intro w'
           go_simp
           with_reducible rfl
          rotate_left
          ·
           simp only [Act.put, List.setIfInBounds_toArray, List.set_cons_zero, List.set_cons_succ, i64_w, i32_w]
           rfl
          refine take_ (i := 6) (N := some 43) (v := ?_) (a' := ?_) #[true, true, true, true, true, true, true, false, false, false, false, false, false, false, false, false, false, false, false, false, false, false, false, false, false, false, false, false, false, false, false, false, false, false, false, false, false] rfl rfl (take_ofW HT_.out HW_.out (by kernel_rfl)) (fun _ _ _ h => h) (Or.inl ⟨by rfl, ?_⟩) hHeld ?_ ?_
          rotate_left
          ·
           rintro w' ⟨s0, s1, s2, s3, s4, s5, s6⟩
           go_simp
           with_reducible rfl
          rotate_left
          ·
           simp only [Act.put, List.setIfInBounds_toArray, List.set_cons_zero, List.set_cons_succ, i64_w, i32_w]
           rfl
          refine pure_ (i := 7) (N := some 44) (v := ?_) (a' := ?_) #[true, true, true, true, true, true, true, true, false, false, false, false, false, false, false, false, false, false, false, false, false, false, false, false, false, false, false, false, false, false, false, false, false, false, false, false, false] rfl rfl (any_of HT_.out (by kernel_rfl)) (fun _ _ _ h => h) (Or.inl ⟨by rfl, ?_⟩) ?_ ?_
          rotate_left
          ·
           intro w'
           go_simp
           with_reducible rfl
          rotate_left
          ·
           simp only [Act.put, List.setIfInBounds_toArray, List.set_cons_zero, List.set_cons_succ, i64_w, i32_w]
           rfl
          refine pure_ (i := 8) (N := some 45) (v := ?_) (a' := ?_) #[true, true, true, true, true, true, true, true, true, false, false, false, false, false, false, false, false, false, false, false, false, false, false, false, false, false, false, false, false, false, false, false, false, false, false, false, false] rfl rfl (any_of HT_.out (by kernel_rfl)) (fun _ _ _ h => h) (Or.inl ⟨by rfl, ?_⟩) ?_ ?_
          rotate_left
          ·
           intro w'
           go_simp
           with_reducible rfl
          rotate_left
          ·
           simp only [Act.put, List.setIfInBounds_toArray, List.set_cons_zero, List.set_cons_succ, i64_w, i32_w]
           rfl
          refine pure_ (i := 9) (N := some 46) (v := ?_) (a' := ?_) #[true, true, true, true, true, true, true, true, true, true, false, false, false, false, false, false, false, false, false, false, false, false, false, false, false, false, false, false, false, false, false, false, false, false, false, false, false] rfl rfl (any_of HT_.out (by kernel_rfl)) (fun _ _ _ h => h) (Or.inl ⟨by rfl, ?_⟩) ?_ ?_
          rotate_left
          ·
           intro w'
           go_simp
           with_reducible rfl
          rotate_left
          ·
           simp only [Act.put, List.setIfInBounds_toArray, List.set_cons_zero, List.set_cons_succ, i64_w, i32_w]
           rfl
          refine pure_ (i := 10) (N := some 47) (v := ?_) (a' := ?_) #[true, true, true, true, true, true, true, true, true, true, true, false, false, false, false, false, false, false, false, false, false, false, false, false, false, false, false, false, false, false, false, false, false, false, false, false, false] rfl rfl (any_of HT_.out (by kernel_rfl)) (fun _ _ _ h => h) (Or.inl ⟨by rfl, ?_⟩) ?_ ?_
          rotate_left
          ·
           intro w'
           go_simp
           with_reducible rfl
          rotate_left
          ·
           simp only [Act.put, List.setIfInBounds_toArray, List.set_cons_zero, List.set_cons_succ, i64_w, i32_w]
           rfl
          refine pure_ (i := 11) (N := some 48) (v := undef) (a' := ?_) #[true, true, true, true, true, true, true, true, true, true, true, true, false, false, false, false, false, false, false, false, false, false, false, false, false, false, false, false, false, false, false, false, false, false, false, false, false] rfl rfl (any_of HT_.out (by kernel_rfl)) (fun _ _ _ h => h) (Or.inr ⟨by rfl, rfl⟩) ?_ ?_
          rotate_left
          ·
           simp only [Act.put, List.setIfInBounds_toArray, List.set_cons_zero, List.set_cons_succ, i64_w, i32_w]
           rfl
          refine pure_ (i := 12) (N := some 49) (v := undef) (a' := ?_) #[true, true, true, true, true, true, true, true, true, true, true, true, true, false, false, false, false, false, false, false, false, false, false, false, false, false, false, false, false, false, false, false, false, false, false, false, false] rfl rfl (any_of HT_.out (by kernel_rfl)) (fun _ _ _ h => h) (Or.inr ⟨by rfl, rfl⟩) ?_ ?_
          rotate_left
          ·
           simp only [Act.put, List.setIfInBounds_toArray, List.set_cons_zero, List.set_cons_succ, i64_w, i32_w]
           rfl
          refine pure_ (i := 13) (N := some 50) (v := undef) (a' := ?_) #[true, true, true, true, true, true, true, true, true, true, true, true, true, true, false, false, false, false, false, false, false, false, false, false, false, false, false, false, false, false, false, false, false, false, false, false, false] rfl rfl (any_of HT_.out (by kernel_rfl)) (fun _ _ _ h => h) (Or.inr ⟨by rfl, rfl⟩) ?_ ?_
          rotate_left
          ·
           simp only [Act.put, List.setIfInBounds_toArray, List.set_cons_zero, List.set_cons_succ, i64_w, i32_w]
           rfl
          refine pure_ (i := 14) (N := some 51) (v := undef) (a' := ?_) #[true, true, true, true, true, true, true, true, true, true, true, true, true, true, true, false, false, false, false, false, false, false, false, false, false, false, false, false, false, false, false, false, false, false, false, false, false] rfl rfl (any_of HT_.out (by kernel_rfl)) (fun _ _ _ h => h) (Or.inr ⟨by rfl, rfl⟩) ?_ ?_
          rotate_left
          ·
           simp only [Act.put, List.setIfInBounds_toArray, List.set_cons_zero, List.set_cons_succ, i64_w, i32_w]
           rfl
          refine pure_ (i := 15) (N := some 52) (v := ?_) (a' := ?_) #[true, true, true, true, true, true, true, true, true, true, true, true, true, true, true, true, false, false, false, false, false, false, false, false, false, false, false, false, false, false, false, false, false, false, false, false, false] rfl rfl (any_of HT_.out (by kernel_rfl)) (fun _ _ _ h => h) (Or.inl ⟨by rfl, ?_⟩) ?_ ?_
          rotate_left
          ·
           intro w'
           go_simp
           with_reducible rfl
          rotate_left
          ·
           simp only [Act.put, List.setIfInBounds_toArray, List.set_cons_zero, List.set_cons_succ, i64_w, i32_w]
           rfl
          refine pure_ (i := 16) (N := some 53) (v := ?_) (a' := ?_) #[true, true, true, true, true, true, true, true, true, true, true, true, true, true, true, true, true, false, false, false, false, false, false, false, false, false, false, false, false, false, false, false, false, false, false, false, false] rfl rfl (any_of HT_.out (by kernel_rfl)) (fun _ _ _ h => h) (Or.inl ⟨by rfl, ?_⟩) ?_ ?_
          rotate_left
          ·
           intro w'
           go_simp
           with_reducible rfl
          rotate_left
          ·
           simp only [Act.put, List.setIfInBounds_toArray, List.set_cons_zero, List.set_cons_succ, i64_w, i32_w]
           rfl
          refine pure_ (i := 17) (N := some 54) (v := undef) (a' := ?_) #[true, true, true, true, true, true, true, true, true, true, true, true, true, true, true, true, true, true, false, false, false, false, false, false, false, false, false, false, false, false, false, false, false, false, false, false, false] rfl rfl (any_of HT_.out (by kernel_rfl)) (fun _ _ _ h => h) (Or.inr ⟨by rfl, rfl⟩) ?_ ?_
          rotate_left
          ·
           simp only [Act.put, List.setIfInBounds_toArray, List.set_cons_zero, List.set_cons_succ, i64_w, i32_w]
           rfl
          refine pure_ (i := 18) (N := some 55) (v := undef) (a' := ?_) #[true, true, true, true, true, true, true, true, true, true, true, true, true, true, true, true, true, true, true, false, false, false, false, false, false, false, false, false, false, false, false, false, false, false, false, false, false] rfl rfl (any_of HT_.out (by kernel_rfl)) (fun _ _ _ h => h) (Or.inr ⟨by rfl, rfl⟩) ?_ ?_
          rotate_left
          ·
           simp only [Act.put, List.setIfInBounds_toArray, List.set_cons_zero, List.set_cons_succ, i64_w, i32_w]
           rfl
          refine pure_ (i := 19) (N := some 56) (v := undef) (a' := ?_) #[true, true, true, true, true, true, true, true, true, true, true, true, true, true, true, true, true, true, true, true, false, false, false, false, false, false, false, false, false, false, false, false, false, false, false, false, false] rfl rfl (any_of HT_.out (by kernel_rfl)) (fun _ _ _ h => h) (Or.inr ⟨by rfl, rfl⟩) ?_ ?_
          rotate_left
          ·
           simp only [Act.put, List.setIfInBounds_toArray, List.set_cons_zero, List.set_cons_succ, i64_w, i32_w]
           rfl
          refine pure_ (i := 20) (N := some 57) (v := undef) (a' := ?_) #[true, true, true, true, true, true, true, true, true, true, true, true, true, true, true, true, true, true, true, true, true, false, false, false, false, false, false, false, false, false, false, false, false, false, false, false, false] rfl rfl (any_of HT_.out (by kernel_rfl)) (fun _ _ _ h => h) (Or.inr ⟨by rfl, rfl⟩) ?_ ?_
          rotate_left
          ·
           simp only [Act.put, List.setIfInBounds_toArray, List.set_cons_zero, List.set_cons_succ, i64_w, i32_w]
           rfl
          refine pure_ (i := 21) (N := some 58) (v := undef) (a' := ?_) #[true, true, true, true, true, true, true, true, true, true, true, true, true, true, true, true, true, true, true, true, true, true, false, false, false, false, false, false, false, false, false, false, false, false, false, false, false] rfl rfl (any_of HT_.out (by kernel_rfl)) (fun _ _ _ h => h) (Or.inr ⟨by rfl, rfl⟩) ?_ ?_
          rotate_left
          ·
           simp only [Act.put, List.setIfInBounds_toArray, List.set_cons_zero, List.set_cons_succ, i64_w, i32_w]
           rfl
          refine pure_ (i := 22) (N := some 59) (v := undef) (a' := ?_) #[true, true, true, true, true, true, true, true, true, true, true, true, true, true, true, true, true, true, true, true, true, true, true, false, false, false, false, false, false, false, false, false, false, false, false, false, false] rfl rfl (any_of HT_.out (by kernel_rfl)) (fun _ _ _ h => h) (Or.inr ⟨by rfl, rfl⟩) ?_ ?_
          rotate_left
          ·
           simp only [Act.put, List.setIfInBounds_toArray, List.set_cons_zero, List.set_cons_succ, i64_w, i32_w]
           rfl
          refine pure_ (i := 23) (N := some 60) (v := undef) (a' := ?_) #[true, true, true, true, true, true, true, true, true, true, true, true, true, true, true, true, true, true, true, true, true, true, true, true, false, false, false, false, false, false, false, false, false, false, false, false, false] rfl rfl (any_of HT_.out (by kernel_rfl)) (fun _ _ _ h => h) (Or.inr ⟨by rfl, rfl⟩) ?_ ?_
          rotate_left
          ·
           simp only [Act.put, List.setIfInBounds_toArray, List.set_cons_zero, List.set_cons_succ, i64_w, i32_w]
           rfl
          refine pure_ (i := 24) (N := some 61) (v := undef) (a' := ?_) #[true, true, true, true, true, true, true, true, true, true, true, true, true, true, true, true, true, true, true, true, true, true, true, true, true, false, false, false, false, false, false, false, false, false, false, false, false] rfl rfl (any_of HT_.out (by kernel_rfl)) (fun _ _ _ h => h) (Or.inr ⟨by rfl, rfl⟩) ?_ ?_
          rotate_left
          ·
           simp only [Act.put, List.setIfInBounds_toArray, List.set_cons_zero, List.set_cons_succ, i64_w, i32_w]
           rfl
          refine pure_ (i := 25) (N := some 62) (v := ?_) (a' := ?_) #[true, true, true, true, true, true, true, true, true, true, true, true, true, true, true, true, true, true, true, true, true, true, true, true, true, true, false, false, false, false, false, false, false, false, false, false, false] rfl rfl (any_of HT_.out (by kernel_rfl)) (fun _ _ _ h => h) (Or.inl ⟨by rfl, ?_⟩) ?_ ?_
          rotate_left
          ·
           intro w'
           go_simp
           with_reducible rfl
          rotate_left
          ·
           simp only [Act.put, List.setIfInBounds_toArray, List.set_cons_zero, List.set_cons_succ, i64_w, i32_w]
           rfl
          refine pure_ (i := 26) (N := some 63) (v := ?_) (a' := ?_) #[true, true, true, true, true, true, true, true, true, true, true, true, true, true, true, true, true, true, true, true, true, true, true, true, true, true, true, false, false, false, false, false, false, false, false, false, false] rfl rfl (any_of HT_.out (by kernel_rfl)) (fun _ _ _ h => h) (Or.inl ⟨by rfl, ?_⟩) ?_ ?_
          rotate_left
          ·
           intro w'
           go_simp
           with_reducible rfl
          rotate_left
          ·
           simp only [Act.put, List.setIfInBounds_toArray, List.set_cons_zero, List.set_cons_succ, i64_w, i32_w]
           rfl
          refine pure_ (i := 27) (N := some 64) (v := undef) (a' := ?_) #[true, true, true, true, true, true, true, true, true, true, true, true, true, true, true, true, true, true, true, true, true, true, true, true, true, true, true, true, false, false, false, false, false, false, false, false, false] rfl rfl (any_of HT_.out (by kernel_rfl)) (fun _ _ _ h => h) (Or.inr ⟨by rfl, rfl⟩) ?_ ?_
          rotate_left
          ·
           simp only [Act.put, List.setIfInBounds_toArray, List.set_cons_zero, List.set_cons_succ, i64_w, i32_w]
           rfl
          refine pure_ (i := 28) (N := some 65) (v := undef) (a' := ?_) #[true, true, true, true, true, true, true, true, true, true, true, true, true, true, true, true, true, true, true, true, true, true, true, true, true, true, true, true, true, false, false, false, false, false, false, false, false] rfl rfl (any_of HT_.out (by kernel_rfl)) (fun _ _ _ h => h) (Or.inr ⟨by rfl, rfl⟩) ?_ ?_
          rotate_left
          ·
           simp only [Act.put, List.setIfInBounds_toArray, List.set_cons_zero, List.set_cons_succ, i64_w, i32_w]
           rfl
          refine pure_ (i := 29) (N := some 66) (v := undef) (a' := ?_) #[true, true, true, true, true, true, true, true, true, true, true, true, true, true, true, true, true, true, true, true, true, true, true, true, true, true, true, true, true, true, false, false, false, false, false, false, false] rfl rfl (any_of HT_.out (by kernel_rfl)) (fun _ _ _ h => h) (Or.inr ⟨by rfl, rfl⟩) ?_ ?_
          rotate_left
          ·
           simp only [Act.put, List.setIfInBounds_toArray, List.set_cons_zero, List.set_cons_succ, i64_w, i32_w]
           rfl
          refine pure_ (i := 30) (N := some 67) (v := undef) (a' := ?_) #[true, true, true, true, true, true, true, true, true, true, true, true, true, true, true, true, true, true, true, true, true, true, true, true, true, true, true, true, true, true, true, false, false, false, false, false, false] rfl rfl (any_of HT_.out (by kernel_rfl)) (fun _ _ _ h => h) (Or.inr ⟨by rfl, rfl⟩) ?_ ?_
          rotate_left
          ·
           simp only [Act.put, List.setIfInBounds_toArray, List.set_cons_zero, List.set_cons_succ, i64_w, i32_w]
           rfl
          refine pure_ (i := 31) (N := some 68) (v := undef) (a' := ?_) #[true, true, true, true, true, true, true, true, true, true, true, true, true, true, true, true, true, true, true, true, true, true, true, true, true, true, true, true, true, true, true, true, false, false, false, false, false] rfl rfl (any_of HT_.out (by kernel_rfl)) (fun _ _ _ h => h) (Or.inr ⟨by rfl, rfl⟩) ?_ ?_
          rotate_left
          ·
           simp only [Act.put, List.setIfInBounds_toArray, List.set_cons_zero, List.set_cons_succ, i64_w, i32_w]
           rfl
          refine pure_ (i := 32) (N := some 69) (v := undef) (a' := ?_) #[true, true, true, true, true, true, true, true, true, true, true, true, true, true, true, true, true, true, true, true, true, true, true, true, true, true, true, true, true, true, true, true, true, false, false, false, false] rfl rfl (any_of HT_.out (by kernel_rfl)) (fun _ _ _ h => h) (Or.inr ⟨by rfl, rfl⟩) ?_ ?_
          rotate_left
          ·
           simp only [Act.put, List.setIfInBounds_toArray, List.set_cons_zero, List.set_cons_succ, i64_w, i32_w]
           rfl
          refine pure_ (i := 33) (N := some 70) (v := undef) (a' := ?_) #[true, true, true, true, true, true, true, true, true, true, true, true, true, true, true, true, true, true, true, true, true, true, true, true, true, true, true, true, true, true, true, true, true, true, false, false, false] rfl rfl (any_of HT_.out (by kernel_rfl)) (fun _ _ _ h => h) (Or.inr ⟨by rfl, rfl⟩) ?_ ?_
          rotate_left
          ·
           simp only [Act.put, List.setIfInBounds_toArray, List.set_cons_zero, List.set_cons_succ, i64_w, i32_w]
           rfl
          refine pure_ (i := 34) (N := some 71) (v := undef) (a' := ?_) #[true, true, true, true, true, true, true, true, true, true, true, true, true, true, true, true, true, true, true, true, true, true, true, true, true, true, true, true, true, true, true, true, true, true, true, false, false] rfl rfl (any_of HT_.out (by kernel_rfl)) (fun _ _ _ h => h) (Or.inr ⟨by rfl, rfl⟩) ?_ ?_
          rotate_left
          ·
           simp only [Act.put, List.setIfInBounds_toArray, List.set_cons_zero, List.set_cons_succ, i64_w, i32_w]
           rfl
          refine pure_ (i := 35) (N := some 72) (v := undef) (a' := ?_) #[true, true, true, true, true, true, true, true, true, true, true, true, true, true, true, true, true, true, true, true, true, true, true, true, true, true, true, true, true, true, true, true, true, true, true, true, false] rfl rfl (any_of HT_.out (by kernel_rfl)) (fun _ _ _ h => h) (Or.inr ⟨by rfl, rfl⟩) ?_ ?_
          rotate_left
          ·
           simp only [Act.put, List.setIfInBounds_toArray, List.set_cons_zero, List.set_cons_succ, i64_w, i32_w]
           rfl
          refine pure_ (i := 36) (N := some 73) (v := ?_) (a' := ?_) #[true, true, true, true, true, true, true, true, true, true, true, true, true, true, true, true, true, true, true, true, true, true, true, true, true, true, true, true, true, true, true, true, true, true, true, true, true] rfl rfl (any_of HT_.out (by kernel_rfl)) (fun _ _ _ h => h) (Or.inl ⟨by rfl, ?_⟩) ?_ ?_
          rotate_left
          ·
           intro w'
           go_simp
           with_reducible rfl
          rotate_left
          ·
           simp only [Act.put, List.setIfInBounds_toArray, List.set_cons_zero, List.set_cons_succ, i64_w, i32_w]
           rfl
          refine done_ (done_of HT_.out (by kernel_rfl)) ?_
          try go_wp2
          go_meet
          case rel => exact ⟨_, (true), (by first | rfl | (simp; done) | (simp [*]; done)), H', ⟨by have := HK1.out; first | omega | exact Nat.le_refl _⟩, ⟨by (with_reducible repeat (first | apply Kd.R_alloc | apply Kd.R_drewN | apply Kd.R_drew)); first | exact HO_271001.out | exact Kd.R_mono HO_271001.out (fun k_ hk_ => own_len hk_)⟩, ⟨by (with_reducible repeat (first | refine blk_drewN ?_ _ | refine blk_drew ?_ | refine blk_alloc ?_ _)); exact BK270.out⟩, ⟨by (with_reducible repeat (first | refine blk_drewN ?_ _ | refine blk_drew ?_ | refine blk_alloc ?_ _)); exact BK276.out⟩, ⟨by repeat (first | (with_reducible first | exact HB.out | apply below_alloc | apply pw_below_drewN | apply below_drew1 | refine below_set ?_ GE270.out | refine below_set ?_ GE276.out) | exact HB.out)⟩⟩
       case rest =>
        clear HC12
        try clear c1
        try clear c2
        try clear p2
        try clear c15
        try clear c20
        try clear c20b0
        try clear c20b1
        try clear c22
        try clear c22b0
        try clear c22b1
        obtain ⟨kq, x73_11, rfl, HA, HJ11, HO_271001, BK270, BK276, HB⟩ := hcut
        cases kq with
        | zero => exact absurd HA.out (by simp [messuagelaw08_HeadApart.j1])
        | succ kj11 =>
         have H := HA.out
         clear HA
         simp only [messuagelaw08_HeadApart.j1] at H
         by_cases c40 : x73_11 = true
         ·
          subst c40
          have H1 : (some false) = some r := by rw [if_pos rfl] at H; exact H
          clear H
          have H := H1
          clear H1
          obtain rfl := Option.some.inj H
          go_wp2_with (first | ((with_reducible refine gate_dst (N := 48) rfl ?_); refine HeadBox.load_block (ty := 32) (x := .tmp 7) rfl rfl rfl BK276.out Try.underlying32 rfl (by kernel_rfl) ?_) | ((with_reducible refine gate_dst (N := 54) rfl ?_); refine HeadBox.load_block (ty := 32) (x := .tmp 7) rfl rfl rfl BK276.out Try.underlying32 rfl (by kernel_rfl) ?_) | ((with_reducible refine gate_dst (N := 64) rfl ?_); refine HeadBox.load_block (ty := 32) (x := .tmp 7) rfl rfl rfl BK276.out Try.underlying32 rfl (by kernel_rfl) ?_) | ((with_reducible refine gate_dst (N := 98) rfl ?_); refine HeadBox.load_block (ty := 32) (x := .tmp 7) rfl rfl rfl BK276.out Try.underlying32 rfl (by kernel_rfl) ?_) | ((with_reducible refine gate_dst (N := 106) rfl ?_); refine HeadBox.load_block (ty := 37) (x := .tmp 3) rfl rfl rfl BK270.out Try.underlying37 rfl (by kernel_rfl) ?_) | ((with_reducible refine gate_dst (N := 113) rfl ?_); refine HeadBox.load_block (ty := 37) (x := .tmp 3) rfl rfl rfl BK270.out Try.underlying37 rfl (by kernel_rfl) ?_))
          go_ret
          exact ⟨by first | rfl | (simp [errW_none, errW_some] <;> rfl) | (simp [*, errW_none, errW_some] <;> rfl), by repeat (first | (with_reducible first | exact HB.out | apply below_alloc | apply pw_below_drewN | apply below_drew1 | refine below_set ?_ GE270.out | refine below_set ?_ GE276.out) | exact HB.out)⟩
         ·
          replace c40 := Bool.eq_false_iff.mpr c40
          subst c40
          have H1 : (if ((rd_T32 t252 x6_1).f2) > (IntKind.u64.wrap ((l0.length : Int))) then (some false) else (if ((rd_T32 t252 x6_1).f4) > (IntKind.u64.wrap ((IntKind.u64.wrap ((l0.length : Int))) - ((rd_T32 t252 x6_1).f2))) then (some false) else (if ((rd_T32 t252 x6_1).f4) > ((rd_T32 t252 x6_1).f5) then (some false) else ((head_End.f ((rd_T32 t252 x6_1).f0) ((rd_T32 t252 x6_1).f1) ((rd_T32 t252 x6_1).f2) ((rd_T32 t252 x6_1).f3) ((rd_T32 t252 x6_1).f4) ((rd_T32 t252 x6_1).f5) ((rd_T32 t252 x6_1).f6)).bind fun t280 => (messuagelaw08_HeadApart.l0 kj11 l0 t280 (wrap64 (x6_1 + 1)) t251 t252 t255 t256 t257 t258 t259 t260 t261 t262 t263 t264 t265 t266 t267 t268))))) = some r := by rw [if_neg (show ¬ (false = true) by decide)] at H; exact H
          clear H
          have H := H1
          clear H1
          by_cases c41 : ((rd_T32 t252 x6_1).f2) > (IntKind.u64.wrap ((l0.length : Int)))
          ·
           rw [if_pos c41] at H
           have c41b0 : decide ((IntKind.u64.wrap ((l0.length : Int))) < ((rd_T32 t252 x6_1).f2)) = true := decide_eq_true c41
           clear c41
           obtain rfl := Option.some.inj H
           have hnb42 := NB276_270.out
           have hnc42 := NB270_276.out
           have hcz43_0 : wc.cell? ⟨gb276, 0, none⟩ = some (.int .u32 ((rd_T32 t252 x6_1).f0)) := (blk_cell BK276.out 0).trans rfl
           have hcz43_1 : wc.cell? ⟨gb276, 1, none⟩ = some (.int .u32 ((rd_T32 t252 x6_1).f1)) := (blk_cell BK276.out 1).trans rfl
           have hcz43_2 : wc.cell? ⟨gb276, 2, none⟩ = some (.int .u64 ((rd_T32 t252 x6_1).f2)) := (blk_cell BK276.out 2).trans rfl
           have hcz43_3 : wc.cell? ⟨gb276, 3, none⟩ = some (.int .u64 ((rd_T32 t252 x6_1).f3)) := (blk_cell BK276.out 3).trans rfl
           have hcz43_4 : wc.cell? ⟨gb276, 4, none⟩ = some (.int .u64 ((rd_T32 t252 x6_1).f4)) := (blk_cell BK276.out 4).trans rfl
           have hcz43_5 : wc.cell? ⟨gb276, 5, none⟩ = some (.int .u64 ((rd_T32 t252 x6_1).f5)) := (blk_cell BK276.out 5).trans rfl
           have hcz43_6 : wc.cell? ⟨gb276, 6, none⟩ = some (.int .u64 ((rd_T32 t252 x6_1).f6)) := (blk_cell BK276.out 6).trans rfl
           have hfz43_0 := blk_frozen BK276.out 0
           have hfz43_1 := blk_frozen BK276.out 1
           have hfz43_2 := blk_frozen BK276.out 2
           have hfz43_3 := blk_frozen BK276.out 3
           have hfz43_4 := blk_frozen BK276.out 4
           have hfz43_5 := blk_frozen BK276.out 5
           have hfz43_6 := blk_frozen BK276.out 6
           go_wp2_with (first | ((with_reducible refine gate_dst (N := 48) rfl ?_); refine HeadBox.load_block (ty := 32) (x := .tmp 7) rfl rfl rfl BK276.out Try.underlying32 rfl (by kernel_rfl) ?_) | ((with_reducible refine gate_dst (N := 54) rfl ?_); refine HeadBox.load_block (ty := 32) (x := .tmp 7) rfl rfl rfl BK276.out Try.underlying32 rfl (by kernel_rfl) ?_) | ((with_reducible refine gate_dst (N := 64) rfl ?_); refine HeadBox.load_block (ty := 32) (x := .tmp 7) rfl rfl rfl BK276.out Try.underlying32 rfl (by kernel_rfl) ?_) | ((with_reducible refine gate_dst (N := 98) rfl ?_); refine HeadBox.load_block (ty := 32) (x := .tmp 7) rfl rfl rfl BK276.out Try.underlying32 rfl (by kernel_rfl) ?_) | ((with_reducible refine gate_dst (N := 106) rfl ?_); refine HeadBox.load_block (ty := 37) (x := .tmp 3) rfl rfl rfl BK270.out Try.underlying37 rfl (by kernel_rfl) ?_) | ((with_reducible refine gate_dst (N := 113) rfl ?_); refine HeadBox.load_block (ty := 37) (x := .tmp 3) rfl rfl rfl BK270.out Try.underlying37 rfl (by kernel_rfl) ?_))
           go_ret
           exact ⟨by first | rfl | (simp [errW_none, errW_some] <;> rfl) | (simp [*, errW_none, errW_some] <;> rfl), by repeat (first | (with_reducible first | exact HB.out | apply below_alloc | apply pw_below_drewN | apply below_drew1 | refine below_set ?_ GE270.out | refine below_set ?_ GE276.out) | exact HB.out)⟩
          ·
           rw [if_neg c41] at H
           have c41b0 : decide ((IntKind.u64.wrap ((l0.length : Int))) < ((rd_T32 t252 x6_1).f2)) = false := decide_eq_false c41
           clear c41
           by_cases c44 : ((rd_T32 t252 x6_1).f4) > (IntKind.u64.wrap ((IntKind.u64.wrap ((l0.length : Int))) - ((rd_T32 t252 x6_1).f2)))
           ·
            rw [if_pos c44] at H
            have c44b0 : decide ((IntKind.u64.wrap ((IntKind.u64.wrap ((l0.length : Int))) - ((rd_T32 t252 x6_1).f2))) < ((rd_T32 t252 x6_1).f4)) = true := decide_eq_true c44
            clear c44
            obtain rfl := Option.some.inj H
            have hnb45 := NB276_270.out
            have hnc45 := NB270_276.out
            have hcz46_0 : wc.cell? ⟨gb276, 0, none⟩ = some (.int .u32 ((rd_T32 t252 x6_1).f0)) := (blk_cell BK276.out 0).trans rfl
            have hcz46_1 : wc.cell? ⟨gb276, 1, none⟩ = some (.int .u32 ((rd_T32 t252 x6_1).f1)) := (blk_cell BK276.out 1).trans rfl
            have hcz46_2 : wc.cell? ⟨gb276, 2, none⟩ = some (.int .u64 ((rd_T32 t252 x6_1).f2)) := (blk_cell BK276.out 2).trans rfl
            have hcz46_3 : wc.cell? ⟨gb276, 3, none⟩ = some (.int .u64 ((rd_T32 t252 x6_1).f3)) := (blk_cell BK276.out 3).trans rfl
            have hcz46_4 : wc.cell? ⟨gb276, 4, none⟩ = some (.int .u64 ((rd_T32 t252 x6_1).f4)) := (blk_cell BK276.out 4).trans rfl
            have hcz46_5 : wc.cell? ⟨gb276, 5, none⟩ = some (.int .u64 ((rd_T32 t252 x6_1).f5)) := (blk_cell BK276.out 5).trans rfl
            have hcz46_6 : wc.cell? ⟨gb276, 6, none⟩ = some (.int .u64 ((rd_T32 t252 x6_1).f6)) := (blk_cell BK276.out 6).trans rfl
            have hfz46_0 := blk_frozen BK276.out 0
            have hfz46_1 := blk_frozen BK276.out 1
            have hfz46_2 := blk_frozen BK276.out 2
            have hfz46_3 := blk_frozen BK276.out 3
            have hfz46_4 := blk_frozen BK276.out 4
            have hfz46_5 := blk_frozen BK276.out 5
            have hfz46_6 := blk_frozen BK276.out 6
            go_wp2_with (first | ((with_reducible refine gate_dst (N := 48) rfl ?_); refine HeadBox.load_block (ty := 32) (x := .tmp 7) rfl rfl rfl BK276.out Try.underlying32 rfl (by kernel_rfl) ?_) | ((with_reducible refine gate_dst (N := 54) rfl ?_); refine HeadBox.load_block (ty := 32) (x := .tmp 7) rfl rfl rfl BK276.out Try.underlying32 rfl (by kernel_rfl) ?_) | ((with_reducible refine gate_dst (N := 64) rfl ?_); refine HeadBox.load_block (ty := 32) (x := .tmp 7) rfl rfl rfl BK276.out Try.underlying32 rfl (by kernel_rfl) ?_) | ((with_reducible refine gate_dst (N := 98) rfl ?_); refine HeadBox.load_block (ty := 32) (x := .tmp 7) rfl rfl rfl BK276.out Try.underlying32 rfl (by kernel_rfl) ?_) | ((with_reducible refine gate_dst (N := 106) rfl ?_); refine HeadBox.load_block (ty := 37) (x := .tmp 3) rfl rfl rfl BK270.out Try.underlying37 rfl (by kernel_rfl) ?_) | ((with_reducible refine gate_dst (N := 113) rfl ?_); refine HeadBox.load_block (ty := 37) (x := .tmp 3) rfl rfl rfl BK270.out Try.underlying37 rfl (by kernel_rfl) ?_))
            go_ret
            exact ⟨by first | rfl | (simp [errW_none, errW_some] <;> rfl) | (simp [*, errW_none, errW_some] <;> rfl), by repeat (first | (with_reducible first | exact HB.out | apply below_alloc | apply pw_below_drewN | apply below_drew1 | refine below_set ?_ GE270.out | refine below_set ?_ GE276.out) | exact HB.out)⟩
           ·
            rw [if_neg c44] at H
            have c44b0 : decide ((IntKind.u64.wrap ((IntKind.u64.wrap ((l0.length : Int))) - ((rd_T32 t252 x6_1).f2))) < ((rd_T32 t252 x6_1).f4)) = false := decide_eq_false c44
            clear c44
            by_cases c47 : ((rd_T32 t252 x6_1).f4) > ((rd_T32 t252 x6_1).f5)
            ·
             rw [if_pos c47] at H
             have c47b0 : decide (((rd_T32 t252 x6_1).f5) < ((rd_T32 t252 x6_1).f4)) = true := decide_eq_true c47
             clear c47
             obtain rfl := Option.some.inj H
             have hnb48 := NB276_270.out
             have hnc48 := NB270_276.out
             have hcz49_0 : wc.cell? ⟨gb276, 0, none⟩ = some (.int .u32 ((rd_T32 t252 x6_1).f0)) := (blk_cell BK276.out 0).trans rfl
             have hcz49_1 : wc.cell? ⟨gb276, 1, none⟩ = some (.int .u32 ((rd_T32 t252 x6_1).f1)) := (blk_cell BK276.out 1).trans rfl
             have hcz49_2 : wc.cell? ⟨gb276, 2, none⟩ = some (.int .u64 ((rd_T32 t252 x6_1).f2)) := (blk_cell BK276.out 2).trans rfl
             have hcz49_3 : wc.cell? ⟨gb276, 3, none⟩ = some (.int .u64 ((rd_T32 t252 x6_1).f3)) := (blk_cell BK276.out 3).trans rfl
             have hcz49_4 : wc.cell? ⟨gb276, 4, none⟩ = some (.int .u64 ((rd_T32 t252 x6_1).f4)) := (blk_cell BK276.out 4).trans rfl
             have hcz49_5 : wc.cell? ⟨gb276, 5, none⟩ = some (.int .u64 ((rd_T32 t252 x6_1).f5)) := (blk_cell BK276.out 5).trans rfl
             have hcz49_6 : wc.cell? ⟨gb276, 6, none⟩ = some (.int .u64 ((rd_T32 t252 x6_1).f6)) := (blk_cell BK276.out 6).trans rfl
             have hfz49_0 := blk_frozen BK276.out 0
             have hfz49_1 := blk_frozen BK276.out 1
             have hfz49_2 := blk_frozen BK276.out 2
             have hfz49_3 := blk_frozen BK276.out 3
             have hfz49_4 := blk_frozen BK276.out 4
             have hfz49_5 := blk_frozen BK276.out 5
             have hfz49_6 := blk_frozen BK276.out 6
             go_wp2_with (first | ((with_reducible refine gate_dst (N := 48) rfl ?_); refine HeadBox.load_block (ty := 32) (x := .tmp 7) rfl rfl rfl BK276.out Try.underlying32 rfl (by kernel_rfl) ?_) | ((with_reducible refine gate_dst (N := 54) rfl ?_); refine HeadBox.load_block (ty := 32) (x := .tmp 7) rfl rfl rfl BK276.out Try.underlying32 rfl (by kernel_rfl) ?_) | ((with_reducible refine gate_dst (N := 64) rfl ?_); refine HeadBox.load_block (ty := 32) (x := .tmp 7) rfl rfl rfl BK276.out Try.underlying32 rfl (by kernel_rfl) ?_) | ((with_reducible refine gate_dst (N := 98) rfl ?_); refine HeadBox.load_block (ty := 32) (x := .tmp 7) rfl rfl rfl BK276.out Try.underlying32 rfl (by kernel_rfl) ?_) | ((with_reducible refine gate_dst (N := 106) rfl ?_); refine HeadBox.load_block (ty := 37) (x := .tmp 3) rfl rfl rfl BK270.out Try.underlying37 rfl (by kernel_rfl) ?_) | ((with_reducible refine gate_dst (N := 113) rfl ?_); refine HeadBox.load_block (ty := 37) (x := .tmp 3) rfl rfl rfl BK270.out Try.underlying37 rfl (by kernel_rfl) ?_))
             go_ret
             exact ⟨by first | rfl | (simp [errW_none, errW_some] <;> rfl) | (simp [*, errW_none, errW_some] <;> rfl), by repeat (first | (with_reducible first | exact HB.out | apply below_alloc | apply pw_below_drewN | apply below_drew1 | refine below_set ?_ GE270.out | refine below_set ?_ GE276.out) | exact HB.out)⟩
            ·
             rw [if_neg c47] at H
             have c47b0 : decide (((rd_T32 t252 x6_1).f5) < ((rd_T32 t252 x6_1).f4)) = false := decide_eq_false c47
             clear c47
             replace H := Option.bind_eq_some_iff.mp H
             obtain ⟨t280, A500, H⟩ := H
             replace H : (messuagelaw08_HeadApart.l0 kj11 l0 t280 (wrap64 (x6_1 + 1)) t251 t252 t255 t256 t257 t258 t259 t260 t261 t262 t263 t264 t265 t266 t267 t268) = some r := H
             have A50 := Aside0.mk A500
             clear A500
             have H' := Aside0.mk H
             clear H
             have hnb51 := NB276_270.out
             have hnc51 := NB270_276.out
             have hcz52_0 : wc.cell? ⟨gb276, 0, none⟩ = some (.int .u32 ((rd_T32 t252 x6_1).f0)) := (blk_cell BK276.out 0).trans rfl
             have hcz52_1 : wc.cell? ⟨gb276, 1, none⟩ = some (.int .u32 ((rd_T32 t252 x6_1).f1)) := (blk_cell BK276.out 1).trans rfl
             have hcz52_2 : wc.cell? ⟨gb276, 2, none⟩ = some (.int .u64 ((rd_T32 t252 x6_1).f2)) := (blk_cell BK276.out 2).trans rfl
             have hcz52_3 : wc.cell? ⟨gb276, 3, none⟩ = some (.int .u64 ((rd_T32 t252 x6_1).f3)) := (blk_cell BK276.out 3).trans rfl
             have hcz52_4 : wc.cell? ⟨gb276, 4, none⟩ = some (.int .u64 ((rd_T32 t252 x6_1).f4)) := (blk_cell BK276.out 4).trans rfl
             have hcz52_5 : wc.cell? ⟨gb276, 5, none⟩ = some (.int .u64 ((rd_T32 t252 x6_1).f5)) := (blk_cell BK276.out 5).trans rfl
             have hcz52_6 : wc.cell? ⟨gb276, 6, none⟩ = some (.int .u64 ((rd_T32 t252 x6_1).f6)) := (blk_cell BK276.out 6).trans rfl
             have hfz52_0 := blk_frozen BK276.out 0
             have hfz52_1 := blk_frozen BK276.out 1
             have hfz52_2 := blk_frozen BK276.out 2
             have hfz52_3 := blk_frozen BK276.out 3
             have hfz52_4 := blk_frozen BK276.out 4
             have hfz52_5 := blk_frozen BK276.out 5
             have hfz52_6 := blk_frozen BK276.out 6
             go_wp2_with (first | ((with_reducible refine gate_dst (N := 48) rfl ?_); refine HeadBox.load_block (ty := 32) (x := .tmp 7) rfl rfl rfl BK276.out Try.underlying32 rfl (by kernel_rfl) ?_) | ((with_reducible refine gate_dst (N := 54) rfl ?_); refine HeadBox.load_block (ty := 32) (x := .tmp 7) rfl rfl rfl BK276.out Try.underlying32 rfl (by kernel_rfl) ?_) | ((with_reducible refine gate_dst (N := 64) rfl ?_); refine HeadBox.load_block (ty := 32) (x := .tmp 7) rfl rfl rfl BK276.out Try.underlying32 rfl (by kernel_rfl) ?_) | ((with_reducible refine gate_dst (N := 98) rfl ?_); refine HeadBox.load_block (ty := 32) (x := .tmp 7) rfl rfl rfl BK276.out Try.underlying32 rfl (by kernel_rfl) ?_) | ((with_reducible refine gate_dst (N := 106) rfl ?_); refine HeadBox.load_block (ty := 37) (x := .tmp 3) rfl rfl rfl BK270.out Try.underlying37 rfl (by kernel_rfl) ?_) | ((with_reducible refine gate_dst (N := 113) rfl ?_); refine HeadBox.load_block (ty := 37) (x := .tmp 3) rfl rfl rfl BK270.out Try.underlying37 rfl (by kernel_rfl) ?_) | ((with_reducible refine gate_callee (f := 15) rfl ?_); refine goesL_ (some 99) rfl rfl Try.func15 (by kernel_rfl) rfl #[.agg #[.int .u32 ((rd_T32 t252 x6_1).f0), .int .u32 ((rd_T32 t252 x6_1).f1), .int .u64 ((rd_T32 t252 x6_1).f2), .int .u64 ((rd_T32 t252 x6_1).f3), .int .u64 ((rd_T32 t252 x6_1).f4), .int .u64 ((rd_T32 t252 x6_1).f5), .int .u64 ((rd_T32 t252 x6_1).f6)]] rfl (by (try simp only [List.map_toArray, List.map_cons, List.map_nil]); first | done | rfl | (simp only [List.length_drop, List.length_take]; rfl)) ?_; (with_reducible refine (head_End.calls ((rd_T32 t252 x6_1).f0) ((rd_T32 t252 x6_1).f1) ((rd_T32 t252 x6_1).f2) ((rd_T32 t252 x6_1).f3) ((rd_T32 t252 x6_1).f4) ((rd_T32 t252 x6_1).f5) ((rd_T32 t252 x6_1).f6) t280 _ A50.out).mono ?_); rintro e w53 ⟨rfl, hb⟩; refine ⟨_, rfl, ?_⟩; have n0_ := Aside0.mk (Kd.R_below (by (with_reducible repeat (first | apply Kd.R_alloc | apply Kd.R_drewN | apply Kd.R_drew)); exact HO_271001.out) hb); have n1_ := Aside0.mk (blk_below (g := gb270) (o := .cells #[.int .u16 t251, .slice (some ad275) t252.length co8, .int .u32 t255, .int .u32 t256, .int .u64 t257, .int .u64 t258, .int .u64 t259, .int .u64 t260, .int .u64 t261, .int .u32 t262, .int .u32 t263, .int .u64 t264, .int .u64 t265, .int .u64 t266, .int .u64 t267, .int .u64 t268] 37 (0, 0)) (by (with_reducible repeat (first | refine blk_drewN ?_ _ | refine blk_drew ?_ | refine blk_alloc ?_ _)); exact BK270.out) hb); have n2_ := Aside0.mk (blk_below (g := gb276) (o := .cells #[.int .u32 ((rd_T32 t252 x6_1).f0), .int .u32 ((rd_T32 t252 x6_1).f1), .int .u64 ((rd_T32 t252 x6_1).f2), .int .u64 ((rd_T32 t252 x6_1).f3), .int .u64 ((rd_T32 t252 x6_1).f4), .int .u64 ((rd_T32 t252 x6_1).f5), .int .u64 ((rd_T32 t252 x6_1).f6)] 32 (0, 0)) (by (with_reducible repeat (first | refine blk_drewN ?_ _ | refine blk_drew ?_ | refine blk_alloc ?_ _)); exact BK276.out) hb); have n3_ := Aside0.mk (below_step (by repeat (first | (with_reducible first | exact HB.out | apply below_alloc | apply pw_below_drewN | apply below_drew1 | refine below_set ?_ GE270.out | refine below_set ?_ GE276.out) | exact HB.out)) hb); clear HO_271001; clear BK270; clear BK276; clear HB; have HO_271001 := n0_; have BK270 := n1_; have BK276 := n2_; have HB := n3_; clear n0_ n1_ n2_ n3_; (try clear hb); (try clear hb2); (try clear hk); (try clear hi)))
             go_roundg kj11
             case measure => have := HK1.out; have := HJ11.out; omega
             case rel => exact ⟨(t280), (wrap64 (x6_1 + 1)), (by first | rfl | (simp; done) | (simp [*]; done)), (by first | rfl | (simp; done) | (simp [*]; done)), H', ⟨by have := HK1.out; have := HJ11.out; omega⟩, ⟨by (with_reducible repeat (first | apply Kd.R_alloc | apply Kd.R_drewN | apply Kd.R_drew)); exact Kd.R_mono HO_271001.out (fun _ hk => trivial)⟩, ⟨by (with_reducible repeat (first | refine blk_drewN ?_ _ | refine blk_drew ?_ | refine blk_alloc ?_ _)); exact BK270.out⟩, ⟨by repeat (first | (with_reducible first | exact HB.out | apply below_alloc | apply pw_below_drewN | apply below_drew1 | refine below_set ?_ GE270.out | refine below_set ?_ GE276.out) | exact HB.out)⟩⟩
      ·
       rw [if_neg c11] at H
       exact absurd H (by simp)
     ·
      rw [if_neg c10] at H
      have c10b0 : decide (x6_1 < (t252.length : Int)) = false := decide_eq_false c10
      clear c10
      by_cases c54 : (t252.length : Int) > 0
      ·
       rw [if_pos c54] at H
       have c54b0 : decide (0 < (t252.length : Int)) = true := decide_eq_true c54
       have c54b1 : decide (0 < t252.length) = true := decide_eq_true (by omega)
       clear c54
       replace H := Option.bind_eq_some_iff.mp H
       obtain ⟨t272, A550, H⟩ := H
       replace H : (if x5_1 = (IntKind.u64.wrap ((IntKind.u64.wrap (t272)) * 256)) then ((head_Span.f t251 t252 t255 t256 t257 t258 t259 t260 t261 t262 t263 t264 t265 t266 t267 t268).bind fun t273 => (if t273 ≤ 64 then ((messuagelaw08_alive.f k1).bind fun t274 => (some t274)) else (some false))) else (some false)) = some r := H
       have A55 := Aside0.mk A550
       clear A550
       by_cases c56 : x5_1 = (IntKind.u64.wrap ((IntKind.u64.wrap (t272)) * 256))
       ·
        rw [if_pos c56] at H
        have c56b0 : (x5_1 == (IntKind.u64.wrap ((IntKind.u64.wrap (t272)) * 256))) = true := beq_iff_eq.mpr c56
        have c56b1 : (x5_1 != (IntKind.u64.wrap ((IntKind.u64.wrap (t272)) * 256))) = false := bne_eq_false_iff_eq.mpr c56
        clear c56
        replace H := Option.bind_eq_some_iff.mp H
        obtain ⟨t273, A570, H⟩ := H
        replace H : (if t273 ≤ 64 then ((messuagelaw08_alive.f k1).bind fun t274 => (some t274)) else (some false)) = some r := H
        have A57 := Aside0.mk A570
        clear A570
        obtain rfl : t272 = t273 := Option.some.inj (A55.out.symm.trans A57.out)
        by_cases c58 : t272 ≤ 64
        ·
         rw [if_pos c58] at H
         have c58b0 : decide (t272 ≤ 64) = true := decide_eq_true c58
         clear c58
         replace H := Option.bind_eq_some_iff.mp H
         obtain ⟨t274, A590, H⟩ := H
         replace H : (some t274) = some r := H
         have A59 := Aside0.mk A590
         clear A590
         obtain rfl := Option.some.inj H
         have hcz60_0 : wr.cell? ⟨gb270, 0, none⟩ = some (.int .u16 t251) := (blk_cell BK270.out 0).trans rfl
         have hcz60_1 : wr.cell? ⟨gb270, 1, none⟩ = some (.slice Ao8 t252.length co8) := (blk_cell BK270.out 1).trans rfl
         have hcz60_2 : wr.cell? ⟨gb270, 2, none⟩ = some (.int .u32 t255) := (blk_cell BK270.out 2).trans rfl
         have hcz60_3 : wr.cell? ⟨gb270, 3, none⟩ = some (.int .u32 t256) := (blk_cell BK270.out 3).trans rfl
         have hcz60_4 : wr.cell? ⟨gb270, 4, none⟩ = some (.int .u64 t257) := (blk_cell BK270.out 4).trans rfl
         have hcz60_5 : wr.cell? ⟨gb270, 5, none⟩ = some (.int .u64 t258) := (blk_cell BK270.out 5).trans rfl
         have hcz60_6 : wr.cell? ⟨gb270, 6, none⟩ = some (.int .u64 t259) := (blk_cell BK270.out 6).trans rfl
         have hcz60_7 : wr.cell? ⟨gb270, 7, none⟩ = some (.int .u64 t260) := (blk_cell BK270.out 7).trans rfl
         have hcz60_8 : wr.cell? ⟨gb270, 8, none⟩ = some (.int .u64 t261) := (blk_cell BK270.out 8).trans rfl
         have hcz60_9 : wr.cell? ⟨gb270, 9, none⟩ = some (.int .u32 t262) := (blk_cell BK270.out 9).trans rfl
         have hcz60_10 : wr.cell? ⟨gb270, 10, none⟩ = some (.int .u32 t263) := (blk_cell BK270.out 10).trans rfl
         have hcz60_11 : wr.cell? ⟨gb270, 11, none⟩ = some (.int .u64 t264) := (blk_cell BK270.out 11).trans rfl
         have hcz60_12 : wr.cell? ⟨gb270, 12, none⟩ = some (.int .u64 t265) := (blk_cell BK270.out 12).trans rfl
         have hcz60_13 : wr.cell? ⟨gb270, 13, none⟩ = some (.int .u64 t266) := (blk_cell BK270.out 13).trans rfl
         have hcz60_14 : wr.cell? ⟨gb270, 14, none⟩ = some (.int .u64 t267) := (blk_cell BK270.out 14).trans rfl
         have hcz60_15 : wr.cell? ⟨gb270, 15, none⟩ = some (.int .u64 t268) := (blk_cell BK270.out 15).trans rfl
         have hfz60_0 := blk_frozen BK270.out 0
         have hfz60_1 := blk_frozen BK270.out 1
         have hfz60_2 := blk_frozen BK270.out 2
         have hfz60_3 := blk_frozen BK270.out 3
         have hfz60_4 := blk_frozen BK270.out 4
         have hfz60_5 := blk_frozen BK270.out 5
         have hfz60_6 := blk_frozen BK270.out 6
         have hfz60_7 := blk_frozen BK270.out 7
         have hfz60_8 := blk_frozen BK270.out 8
         have hfz60_9 := blk_frozen BK270.out 9
         have hfz60_10 := blk_frozen BK270.out 10
         have hfz60_11 := blk_frozen BK270.out 11
         have hfz60_12 := blk_frozen BK270.out 12
         have hfz60_13 := blk_frozen BK270.out 13
         have hfz60_14 := blk_frozen BK270.out 14
         have hfz60_15 := blk_frozen BK270.out 15
         go_wp2_with (first | ((with_reducible refine gate_dst (N := 48) rfl ?_); refine HeadBox.load_block (ty := 32) (x := .tmp 7) rfl rfl rfl BK276.out Try.underlying32 rfl (by kernel_rfl) ?_) | ((with_reducible refine gate_dst (N := 54) rfl ?_); refine HeadBox.load_block (ty := 32) (x := .tmp 7) rfl rfl rfl BK276.out Try.underlying32 rfl (by kernel_rfl) ?_) | ((with_reducible refine gate_dst (N := 64) rfl ?_); refine HeadBox.load_block (ty := 32) (x := .tmp 7) rfl rfl rfl BK276.out Try.underlying32 rfl (by kernel_rfl) ?_) | ((with_reducible refine gate_dst (N := 98) rfl ?_); refine HeadBox.load_block (ty := 32) (x := .tmp 7) rfl rfl rfl BK276.out Try.underlying32 rfl (by kernel_rfl) ?_) | ((with_reducible refine gate_dst (N := 106) rfl ?_); refine HeadBox.load_block (ty := 37) (x := .tmp 3) rfl rfl rfl BK270.out Try.underlying37 rfl (by kernel_rfl) ?_) | ((with_reducible refine gate_dst (N := 113) rfl ?_); refine HeadBox.load_block (ty := 37) (x := .tmp 3) rfl rfl rfl BK270.out Try.underlying37 rfl (by kernel_rfl) ?_) | (go_at_call 16; (with_reducible refine (head_Span.calls t251 _ _ t252 t255 t256 t257 t258 t259 t260 t261 t262 t263 t264 t265 t266 t267 t268 t272 _ ?side1 ?side2 A55.out).mono ?_); (case side1 => repeat (first | exact (Kd.R_reads' HO_271001.out).2.2 | (with_reducible refine Kd.C_alloc ?_ _) | (with_reducible refine Kd.C_drewN ?_ _) | (with_reducible refine Kd.C_drew ?_))); (case side2 => exact (Kd.R_reads' HO_271001.out).2.1); rintro e w61 ⟨rfl, hb⟩; have n0_ := Aside0.mk (Kd.R_below (by (with_reducible repeat (first | apply Kd.R_alloc | apply Kd.R_drewN | apply Kd.R_drew)); exact HO_271001.out) hb); have n1_ := Aside0.mk (blk_below (g := gb270) (o := .cells #[.int .u16 t251, .slice Ao8 t252.length co8, .int .u32 t255, .int .u32 t256, .int .u64 t257, .int .u64 t258, .int .u64 t259, .int .u64 t260, .int .u64 t261, .int .u32 t262, .int .u32 t263, .int .u64 t264, .int .u64 t265, .int .u64 t266, .int .u64 t267, .int .u64 t268] 37 (0, 0)) (by (with_reducible repeat (first | refine blk_drewN ?_ _ | refine blk_drew ?_ | refine blk_alloc ?_ _)); exact BK270.out) hb); have n2_ := Aside0.mk (below_step (by repeat (first | (with_reducible first | exact HB.out | apply below_alloc | apply pw_below_drewN | apply below_drew1 | refine below_set ?_ GE270.out) | exact HB.out)) hb); clear HO_271001; clear BK270; clear HB; have HO_271001 := n0_; have BK270 := n1_; have HB := n2_; clear n0_ n1_ n2_; (try clear hb); (try clear hb2); (try clear hk); (try clear hi); have hcz62_0 : w61.cell? ⟨gb270, 0, none⟩ = some (.int .u16 t251) := (blk_cell BK270.out 0).trans rfl; have hcz62_1 : w61.cell? ⟨gb270, 1, none⟩ = some (.slice Ao8 t252.length co8) := (blk_cell BK270.out 1).trans rfl; have hcz62_2 : w61.cell? ⟨gb270, 2, none⟩ = some (.int .u32 t255) := (blk_cell BK270.out 2).trans rfl; have hcz62_3 : w61.cell? ⟨gb270, 3, none⟩ = some (.int .u32 t256) := (blk_cell BK270.out 3).trans rfl; have hcz62_4 : w61.cell? ⟨gb270, 4, none⟩ = some (.int .u64 t257) := (blk_cell BK270.out 4).trans rfl; have hcz62_5 : w61.cell? ⟨gb270, 5, none⟩ = some (.int .u64 t258) := (blk_cell BK270.out 5).trans rfl; have hcz62_6 : w61.cell? ⟨gb270, 6, none⟩ = some (.int .u64 t259) := (blk_cell BK270.out 6).trans rfl; have hcz62_7 : w61.cell? ⟨gb270, 7, none⟩ = some (.int .u64 t260) := (blk_cell BK270.out 7).trans rfl; have hcz62_8 : w61.cell? ⟨gb270, 8, none⟩ = some (.int .u64 t261) := (blk_cell BK270.out 8).trans rfl; have hcz62_9 : w61.cell? ⟨gb270, 9, none⟩ = some (.int .u32 t262) := (blk_cell BK270.out 9).trans rfl; have hcz62_10 : w61.cell? ⟨gb270, 10, none⟩ = some (.int .u32 t263) := (blk_cell BK270.out 10).trans rfl; have hcz62_11 : w61.cell? ⟨gb270, 11, none⟩ = some (.int .u64 t264) := (blk_cell BK270.out 11).trans rfl; have hcz62_12 : w61.cell? ⟨gb270, 12, none⟩ = some (.int .u64 t265) := (blk_cell BK270.out 12).trans rfl; have hcz62_13 : w61.cell? ⟨gb270, 13, none⟩ = some (.int .u64 t266) := (blk_cell BK270.out 13).trans rfl; have hcz62_14 : w61.cell? ⟨gb270, 14, none⟩ = some (.int .u64 t267) := (blk_cell BK270.out 14).trans rfl; have hcz62_15 : w61.cell? ⟨gb270, 15, none⟩ = some (.int .u64 t268) := (blk_cell BK270.out 15).trans rfl; have hfz62_0 := blk_frozen BK270.out 0; have hfz62_1 := blk_frozen BK270.out 1; have hfz62_2 := blk_frozen BK270.out 2; have hfz62_3 := blk_frozen BK270.out 3; have hfz62_4 := blk_frozen BK270.out 4; have hfz62_5 := blk_frozen BK270.out 5; have hfz62_6 := blk_frozen BK270.out 6; have hfz62_7 := blk_frozen BK270.out 7; have hfz62_8 := blk_frozen BK270.out 8; have hfz62_9 := blk_frozen BK270.out 9; have hfz62_10 := blk_frozen BK270.out 10; have hfz62_11 := blk_frozen BK270.out 11; have hfz62_12 := blk_frozen BK270.out 12; have hfz62_13 := blk_frozen BK270.out 13; have hfz62_14 := blk_frozen BK270.out 14; have hfz62_15 := blk_frozen BK270.out 15) | (go_at_call 16; (with_reducible refine (head_Span.calls t251 _ _ t252 t255 t256 t257 t258 t259 t260 t261 t262 t263 t264 t265 t266 t267 t268 t272 _ ?side1 ?side2 A57.out).mono ?_); (case side1 => repeat (first | exact (Kd.R_reads' HO_271001.out).2.2 | (with_reducible refine Kd.C_alloc ?_ _) | (with_reducible refine Kd.C_drewN ?_ _) | (with_reducible refine Kd.C_drew ?_))); (case side2 => exact (Kd.R_reads' HO_271001.out).2.1); rintro e w63 ⟨rfl, hb⟩; have n0_ := Aside0.mk (Kd.R_below (by (with_reducible repeat (first | apply Kd.R_alloc | apply Kd.R_drewN | apply Kd.R_drew)); exact HO_271001.out) hb); have n1_ := Aside0.mk (blk_below (g := gb270) (o := .cells #[.int .u16 t251, .slice Ao8 t252.length co8, .int .u32 t255, .int .u32 t256, .int .u64 t257, .int .u64 t258, .int .u64 t259, .int .u64 t260, .int .u64 t261, .int .u32 t262, .int .u32 t263, .int .u64 t264, .int .u64 t265, .int .u64 t266, .int .u64 t267, .int .u64 t268] 37 (0, 0)) (by (with_reducible repeat (first | refine blk_drewN ?_ _ | refine blk_drew ?_ | refine blk_alloc ?_ _)); exact BK270.out) hb); have n2_ := Aside0.mk (below_step (by repeat (first | (with_reducible first | exact HB.out | apply below_alloc | apply pw_below_drewN | apply below_drew1 | refine below_set ?_ GE270.out) | exact HB.out)) hb); clear HO_271001; clear BK270; clear HB; have HO_271001 := n0_; have BK270 := n1_; have HB := n2_; clear n0_ n1_ n2_; (try clear hb); (try clear hb2); (try clear hk); (try clear hi)) | (go_at_call 13; (with_reducible refine (messuagelaw08_alive.calls k1  t274 _ A59.out).mono ?_); rintro e w64 ⟨rfl, hb⟩; have n0_ := Aside0.mk (Kd.R_below (by (with_reducible repeat (first | apply Kd.R_alloc | apply Kd.R_drewN | apply Kd.R_drew)); exact HO_271001.out) hb); have n1_ := Aside0.mk (blk_below (g := gb270) (o := .cells #[.int .u16 t251, .slice Ao8 t252.length co8, .int .u32 t255, .int .u32 t256, .int .u64 t257, .int .u64 t258, .int .u64 t259, .int .u64 t260, .int .u64 t261, .int .u32 t262, .int .u32 t263, .int .u64 t264, .int .u64 t265, .int .u64 t266, .int .u64 t267, .int .u64 t268] 37 (0, 0)) (by (with_reducible repeat (first | refine blk_drewN ?_ _ | refine blk_drew ?_ | refine blk_alloc ?_ _)); exact BK270.out) hb); have n2_ := Aside0.mk (below_step (by repeat (first | (with_reducible first | exact HB.out | apply below_alloc | apply pw_below_drewN | apply below_drew1 | refine below_set ?_ GE270.out) | exact HB.out)) hb); clear HO_271001; clear BK270; clear HB; have HO_271001 := n0_; have BK270 := n1_; have HB := n2_; clear n0_ n1_ n2_; (try clear hb); (try clear hb2); (try clear hk); (try clear hi)))
         go_ret
         exact ⟨by first | rfl | (simp [errW_none, errW_some] <;> rfl) | (simp [*, errW_none, errW_some] <;> rfl), by repeat (first | (with_reducible first | exact HB.out | apply below_alloc | apply pw_below_drewN | apply below_drew1 | refine below_set ?_ GE270.out) | exact HB.out)⟩
        ·
         rw [if_neg c58] at H
         have c58b0 : decide (t272 ≤ 64) = false := decide_eq_false c58
         clear c58
         obtain rfl := Option.some.inj H
         have hcz65_0 : wr.cell? ⟨gb270, 0, none⟩ = some (.int .u16 t251) := (blk_cell BK270.out 0).trans rfl
         have hcz65_1 : wr.cell? ⟨gb270, 1, none⟩ = some (.slice Ao8 t252.length co8) := (blk_cell BK270.out 1).trans rfl
         have hcz65_2 : wr.cell? ⟨gb270, 2, none⟩ = some (.int .u32 t255) := (blk_cell BK270.out 2).trans rfl
         have hcz65_3 : wr.cell? ⟨gb270, 3, none⟩ = some (.int .u32 t256) := (blk_cell BK270.out 3).trans rfl
         have hcz65_4 : wr.cell? ⟨gb270, 4, none⟩ = some (.int .u64 t257) := (blk_cell BK270.out 4).trans rfl
         have hcz65_5 : wr.cell? ⟨gb270, 5, none⟩ = some (.int .u64 t258) := (blk_cell BK270.out 5).trans rfl
         have hcz65_6 : wr.cell? ⟨gb270, 6, none⟩ = some (.int .u64 t259) := (blk_cell BK270.out 6).trans rfl
         have hcz65_7 : wr.cell? ⟨gb270, 7, none⟩ = some (.int .u64 t260) := (blk_cell BK270.out 7).trans rfl
         have hcz65_8 : wr.cell? ⟨gb270, 8, none⟩ = some (.int .u64 t261) := (blk_cell BK270.out 8).trans rfl
         have hcz65_9 : wr.cell? ⟨gb270, 9, none⟩ = some (.int .u32 t262) := (blk_cell BK270.out 9).trans rfl
         have hcz65_10 : wr.cell? ⟨gb270, 10, none⟩ = some (.int .u32 t263) := (blk_cell BK270.out 10).trans rfl
         have hcz65_11 : wr.cell? ⟨gb270, 11, none⟩ = some (.int .u64 t264) := (blk_cell BK270.out 11).trans rfl
         have hcz65_12 : wr.cell? ⟨gb270, 12, none⟩ = some (.int .u64 t265) := (blk_cell BK270.out 12).trans rfl
         have hcz65_13 : wr.cell? ⟨gb270, 13, none⟩ = some (.int .u64 t266) := (blk_cell BK270.out 13).trans rfl
         have hcz65_14 : wr.cell? ⟨gb270, 14, none⟩ = some (.int .u64 t267) := (blk_cell BK270.out 14).trans rfl
         have hcz65_15 : wr.cell? ⟨gb270, 15, none⟩ = some (.int .u64 t268) := (blk_cell BK270.out 15).trans rfl
         have hfz65_0 := blk_frozen BK270.out 0
         have hfz65_1 := blk_frozen BK270.out 1
         have hfz65_2 := blk_frozen BK270.out 2
         have hfz65_3 := blk_frozen BK270.out 3
         have hfz65_4 := blk_frozen BK270.out 4
         have hfz65_5 := blk_frozen BK270.out 5
         have hfz65_6 := blk_frozen BK270.out 6
         have hfz65_7 := blk_frozen BK270.out 7
         have hfz65_8 := blk_frozen BK270.out 8
         have hfz65_9 := blk_frozen BK270.out 9
         have hfz65_10 := blk_frozen BK270.out 10
         have hfz65_11 := blk_frozen BK270.out 11
         have hfz65_12 := blk_frozen BK270.out 12
         have hfz65_13 := blk_frozen BK270.out 13
         have hfz65_14 := blk_frozen BK270.out 14
         have hfz65_15 := blk_frozen BK270.out 15
         go_wp2_with (first | ((with_reducible refine gate_dst (N := 48) rfl ?_); refine HeadBox.load_block (ty := 32) (x := .tmp 7) rfl rfl rfl BK276.out Try.underlying32 rfl (by kernel_rfl) ?_) | ((with_reducible refine gate_dst (N := 54) rfl ?_); refine HeadBox.load_block (ty := 32) (x := .tmp 7) rfl rfl rfl BK276.out Try.underlying32 rfl (by kernel_rfl) ?_) | ((with_reducible refine gate_dst (N := 64) rfl ?_); refine HeadBox.load_block (ty := 32) (x := .tmp 7) rfl rfl rfl BK276.out Try.underlying32 rfl (by kernel_rfl) ?_) | ((with_reducible refine gate_dst (N := 98) rfl ?_); refine HeadBox.load_block (ty := 32) (x := .tmp 7) rfl rfl rfl BK276.out Try.underlying32 rfl (by kernel_rfl) ?_) | ((with_reducible refine gate_dst (N := 106) rfl ?_); refine HeadBox.load_block (ty := 37) (x := .tmp 3) rfl rfl rfl BK270.out Try.underlying37 rfl (by kernel_rfl) ?_) | ((with_reducible refine gate_dst (N := 113) rfl ?_); refine HeadBox.load_block (ty := 37) (x := .tmp 3) rfl rfl rfl BK270.out Try.underlying37 rfl (by kernel_rfl) ?_) | (go_at_call 16; (with_reducible refine (head_Span.calls t251 _ _ t252 t255 t256 t257 t258 t259 t260 t261 t262 t263 t264 t265 t266 t267 t268 t272 _ ?side1 ?side2 A55.out).mono ?_); (case side1 => repeat (first | exact (Kd.R_reads' HO_271001.out).2.2 | (with_reducible refine Kd.C_alloc ?_ _) | (with_reducible refine Kd.C_drewN ?_ _) | (with_reducible refine Kd.C_drew ?_))); (case side2 => exact (Kd.R_reads' HO_271001.out).2.1); rintro e w66 ⟨rfl, hb⟩; have n0_ := Aside0.mk (Kd.R_below (by (with_reducible repeat (first | apply Kd.R_alloc | apply Kd.R_drewN | apply Kd.R_drew)); exact HO_271001.out) hb); have n1_ := Aside0.mk (blk_below (g := gb270) (o := .cells #[.int .u16 t251, .slice Ao8 t252.length co8, .int .u32 t255, .int .u32 t256, .int .u64 t257, .int .u64 t258, .int .u64 t259, .int .u64 t260, .int .u64 t261, .int .u32 t262, .int .u32 t263, .int .u64 t264, .int .u64 t265, .int .u64 t266, .int .u64 t267, .int .u64 t268] 37 (0, 0)) (by (with_reducible repeat (first | refine blk_drewN ?_ _ | refine blk_drew ?_ | refine blk_alloc ?_ _)); exact BK270.out) hb); have n2_ := Aside0.mk (below_step (by repeat (first | (with_reducible first | exact HB.out | apply below_alloc | apply pw_below_drewN | apply below_drew1 | refine below_set ?_ GE270.out) | exact HB.out)) hb); clear HO_271001; clear BK270; clear HB; have HO_271001 := n0_; have BK270 := n1_; have HB := n2_; clear n0_ n1_ n2_; (try clear hb); (try clear hb2); (try clear hk); (try clear hi); have hcz67_0 : w66.cell? ⟨gb270, 0, none⟩ = some (.int .u16 t251) := (blk_cell BK270.out 0).trans rfl; have hcz67_1 : w66.cell? ⟨gb270, 1, none⟩ = some (.slice Ao8 t252.length co8) := (blk_cell BK270.out 1).trans rfl; have hcz67_2 : w66.cell? ⟨gb270, 2, none⟩ = some (.int .u32 t255) := (blk_cell BK270.out 2).trans rfl; have hcz67_3 : w66.cell? ⟨gb270, 3, none⟩ = some (.int .u32 t256) := (blk_cell BK270.out 3).trans rfl; have hcz67_4 : w66.cell? ⟨gb270, 4, none⟩ = some (.int .u64 t257) := (blk_cell BK270.out 4).trans rfl; have hcz67_5 : w66.cell? ⟨gb270, 5, none⟩ = some (.int .u64 t258) := (blk_cell BK270.out 5).trans rfl; have hcz67_6 : w66.cell? ⟨gb270, 6, none⟩ = some (.int .u64 t259) := (blk_cell BK270.out 6).trans rfl; have hcz67_7 : w66.cell? ⟨gb270, 7, none⟩ = some (.int .u64 t260) := (blk_cell BK270.out 7).trans rfl; have hcz67_8 : w66.cell? ⟨gb270, 8, none⟩ = some (.int .u64 t261) := (blk_cell BK270.out 8).trans rfl; have hcz67_9 : w66.cell? ⟨gb270, 9, none⟩ = some (.int .u32 t262) := (blk_cell BK270.out 9).trans rfl; have hcz67_10 : w66.cell? ⟨gb270, 10, none⟩ = some (.int .u32 t263) := (blk_cell BK270.out 10).trans rfl; have hcz67_11 : w66.cell? ⟨gb270, 11, none⟩ = some (.int .u64 t264) := (blk_cell BK270.out 11).trans rfl; have hcz67_12 : w66.cell? ⟨gb270, 12, none⟩ = some (.int .u64 t265) := (blk_cell BK270.out 12).trans rfl; have hcz67_13 : w66.cell? ⟨gb270, 13, none⟩ = some (.int .u64 t266) := (blk_cell BK270.out 13).trans rfl; have hcz67_14 : w66.cell? ⟨gb270, 14, none⟩ = some (.int .u64 t267) := (blk_cell BK270.out 14).trans rfl; have hcz67_15 : w66.cell? ⟨gb270, 15, none⟩ = some (.int .u64 t268) := (blk_cell BK270.out 15).trans rfl; have hfz67_0 := blk_frozen BK270.out 0; have hfz67_1 := blk_frozen BK270.out 1; have hfz67_2 := blk_frozen BK270.out 2; have hfz67_3 := blk_frozen BK270.out 3; have hfz67_4 := blk_frozen BK270.out 4; have hfz67_5 := blk_frozen BK270.out 5; have hfz67_6 := blk_frozen BK270.out 6; have hfz67_7 := blk_frozen BK270.out 7; have hfz67_8 := blk_frozen BK270.out 8; have hfz67_9 := blk_frozen BK270.out 9; have hfz67_10 := blk_frozen BK270.out 10; have hfz67_11 := blk_frozen BK270.out 11; have hfz67_12 := blk_frozen BK270.out 12; have hfz67_13 := blk_frozen BK270.out 13; have hfz67_14 := blk_frozen BK270.out 14; have hfz67_15 := blk_frozen BK270.out 15) | (go_at_call 16; (with_reducible refine (head_Span.calls t251 _ _ t252 t255 t256 t257 t258 t259 t260 t261 t262 t263 t264 t265 t266 t267 t268 t272 _ ?side1 ?side2 A57.out).mono ?_); (case side1 => repeat (first | exact (Kd.R_reads' HO_271001.out).2.2 | (with_reducible refine Kd.C_alloc ?_ _) | (with_reducible refine Kd.C_drewN ?_ _) | (with_reducible refine Kd.C_drew ?_))); (case side2 => exact (Kd.R_reads' HO_271001.out).2.1); rintro e w68 ⟨rfl, hb⟩; have n0_ := Aside0.mk (Kd.R_below (by (with_reducible repeat (first | apply Kd.R_alloc | apply Kd.R_drewN | apply Kd.R_drew)); exact HO_271001.out) hb); have n1_ := Aside0.mk (blk_below (g := gb270) (o := .cells #[.int .u16 t251, .slice Ao8 t252.length co8, .int .u32 t255, .int .u32 t256, .int .u64 t257, .int .u64 t258, .int .u64 t259, .int .u64 t260, .int .u64 t261, .int .u32 t262, .int .u32 t263, .int .u64 t264, .int .u64 t265, .int .u64 t266, .int .u64 t267, .int .u64 t268] 37 (0, 0)) (by (with_reducible repeat (first | refine blk_drewN ?_ _ | refine blk_drew ?_ | refine blk_alloc ?_ _)); exact BK270.out) hb); have n2_ := Aside0.mk (below_step (by repeat (first | (with_reducible first | exact HB.out | apply below_alloc | apply pw_below_drewN | apply below_drew1 | refine below_set ?_ GE270.out) | exact HB.out)) hb); clear HO_271001; clear BK270; clear HB; have HO_271001 := n0_; have BK270 := n1_; have HB := n2_; clear n0_ n1_ n2_; (try clear hb); (try clear hb2); (try clear hk); (try clear hi)))
         go_ret
         exact ⟨by first | rfl | (simp [errW_none, errW_some] <;> rfl) | (simp [*, errW_none, errW_some] <;> rfl), by repeat (first | (with_reducible first | exact HB.out | apply below_alloc | apply pw_below_drewN | apply below_drew1 | refine below_set ?_ GE270.out) | exact HB.out)⟩
       ·
        rw [if_neg c56] at H
        have c56b0 : (x5_1 == (IntKind.u64.wrap ((IntKind.u64.wrap (t272)) * 256))) = false := beq_eq_false_iff_ne.mpr c56
        have c56b1 : (x5_1 != (IntKind.u64.wrap ((IntKind.u64.wrap (t272)) * 256))) = true := bne_iff_ne.mpr c56
        obtain rfl := Option.some.inj H
        have hcz69_0 : wr.cell? ⟨gb270, 0, none⟩ = some (.int .u16 t251) := (blk_cell BK270.out 0).trans rfl
        have hcz69_1 : wr.cell? ⟨gb270, 1, none⟩ = some (.slice Ao8 t252.length co8) := (blk_cell BK270.out 1).trans rfl
        have hcz69_2 : wr.cell? ⟨gb270, 2, none⟩ = some (.int .u32 t255) := (blk_cell BK270.out 2).trans rfl
        have hcz69_3 : wr.cell? ⟨gb270, 3, none⟩ = some (.int .u32 t256) := (blk_cell BK270.out 3).trans rfl
        have hcz69_4 : wr.cell? ⟨gb270, 4, none⟩ = some (.int .u64 t257) := (blk_cell BK270.out 4).trans rfl
        have hcz69_5 : wr.cell? ⟨gb270, 5, none⟩ = some (.int .u64 t258) := (blk_cell BK270.out 5).trans rfl
        have hcz69_6 : wr.cell? ⟨gb270, 6, none⟩ = some (.int .u64 t259) := (blk_cell BK270.out 6).trans rfl
        have hcz69_7 : wr.cell? ⟨gb270, 7, none⟩ = some (.int .u64 t260) := (blk_cell BK270.out 7).trans rfl
        have hcz69_8 : wr.cell? ⟨gb270, 8, none⟩ = some (.int .u64 t261) := (blk_cell BK270.out 8).trans rfl
        have hcz69_9 : wr.cell? ⟨gb270, 9, none⟩ = some (.int .u32 t262) := (blk_cell BK270.out 9).trans rfl
        have hcz69_10 : wr.cell? ⟨gb270, 10, none⟩ = some (.int .u32 t263) := (blk_cell BK270.out 10).trans rfl
        have hcz69_11 : wr.cell? ⟨gb270, 11, none⟩ = some (.int .u64 t264) := (blk_cell BK270.out 11).trans rfl
        have hcz69_12 : wr.cell? ⟨gb270, 12, none⟩ = some (.int .u64 t265) := (blk_cell BK270.out 12).trans rfl
        have hcz69_13 : wr.cell? ⟨gb270, 13, none⟩ = some (.int .u64 t266) := (blk_cell BK270.out 13).trans rfl
        have hcz69_14 : wr.cell? ⟨gb270, 14, none⟩ = some (.int .u64 t267) := (blk_cell BK270.out 14).trans rfl
        have hcz69_15 : wr.cell? ⟨gb270, 15, none⟩ = some (.int .u64 t268) := (blk_cell BK270.out 15).trans rfl
        have hfz69_0 := blk_frozen BK270.out 0
        have hfz69_1 := blk_frozen BK270.out 1
        have hfz69_2 := blk_frozen BK270.out 2
        have hfz69_3 := blk_frozen BK270.out 3
        have hfz69_4 := blk_frozen BK270.out 4
        have hfz69_5 := blk_frozen BK270.out 5
        have hfz69_6 := blk_frozen BK270.out 6
        have hfz69_7 := blk_frozen BK270.out 7
        have hfz69_8 := blk_frozen BK270.out 8
        have hfz69_9 := blk_frozen BK270.out 9
        have hfz69_10 := blk_frozen BK270.out 10
        have hfz69_11 := blk_frozen BK270.out 11
        have hfz69_12 := blk_frozen BK270.out 12
        have hfz69_13 := blk_frozen BK270.out 13
        have hfz69_14 := blk_frozen BK270.out 14
        have hfz69_15 := blk_frozen BK270.out 15
        go_wp2_with (first | ((with_reducible refine gate_dst (N := 48) rfl ?_); refine HeadBox.load_block (ty := 32) (x := .tmp 7) rfl rfl rfl BK276.out Try.underlying32 rfl (by kernel_rfl) ?_) | ((with_reducible refine gate_dst (N := 54) rfl ?_); refine HeadBox.load_block (ty := 32) (x := .tmp 7) rfl rfl rfl BK276.out Try.underlying32 rfl (by kernel_rfl) ?_) | ((with_reducible refine gate_dst (N := 64) rfl ?_); refine HeadBox.load_block (ty := 32) (x := .tmp 7) rfl rfl rfl BK276.out Try.underlying32 rfl (by kernel_rfl) ?_) | ((with_reducible refine gate_dst (N := 98) rfl ?_); refine HeadBox.load_block (ty := 32) (x := .tmp 7) rfl rfl rfl BK276.out Try.underlying32 rfl (by kernel_rfl) ?_) | ((with_reducible refine gate_dst (N := 106) rfl ?_); refine HeadBox.load_block (ty := 37) (x := .tmp 3) rfl rfl rfl BK270.out Try.underlying37 rfl (by kernel_rfl) ?_) | ((with_reducible refine gate_dst (N := 113) rfl ?_); refine HeadBox.load_block (ty := 37) (x := .tmp 3) rfl rfl rfl BK270.out Try.underlying37 rfl (by kernel_rfl) ?_) | (go_at_call 16; (with_reducible refine (head_Span.calls t251 _ _ t252 t255 t256 t257 t258 t259 t260 t261 t262 t263 t264 t265 t266 t267 t268 t272 _ ?side1 ?side2 A55.out).mono ?_); (case side1 => repeat (first | exact (Kd.R_reads' HO_271001.out).2.2 | (with_reducible refine Kd.C_alloc ?_ _) | (with_reducible refine Kd.C_drewN ?_ _) | (with_reducible refine Kd.C_drew ?_))); (case side2 => exact (Kd.R_reads' HO_271001.out).2.1); rintro e w70 ⟨rfl, hb⟩; have n0_ := Aside0.mk (Kd.R_below (by (with_reducible repeat (first | apply Kd.R_alloc | apply Kd.R_drewN | apply Kd.R_drew)); exact HO_271001.out) hb); have n1_ := Aside0.mk (blk_below (g := gb270) (o := .cells #[.int .u16 t251, .slice Ao8 t252.length co8, .int .u32 t255, .int .u32 t256, .int .u64 t257, .int .u64 t258, .int .u64 t259, .int .u64 t260, .int .u64 t261, .int .u32 t262, .int .u32 t263, .int .u64 t264, .int .u64 t265, .int .u64 t266, .int .u64 t267, .int .u64 t268] 37 (0, 0)) (by (with_reducible repeat (first | refine blk_drewN ?_ _ | refine blk_drew ?_ | refine blk_alloc ?_ _)); exact BK270.out) hb); have n2_ := Aside0.mk (below_step (by repeat (first | (with_reducible first | exact HB.out | apply below_alloc | apply pw_below_drewN | apply below_drew1 | refine below_set ?_ GE270.out) | exact HB.out)) hb); clear HO_271001; clear BK270; clear HB; have HO_271001 := n0_; have BK270 := n1_; have HB := n2_; clear n0_ n1_ n2_; (try clear hb); (try clear hb2); (try clear hk); (try clear hi)))
        go_ret
        exact ⟨by first | rfl | (simp [errW_none, errW_some] <;> rfl) | (simp [*, errW_none, errW_some] <;> rfl), by repeat (first | (with_reducible first | exact HB.out | apply below_alloc | apply pw_below_drewN | apply below_drew1 | refine below_set ?_ GE270.out) | exact HB.out)⟩
      ·
       rw [if_neg c54] at H
       have c54b0 : decide (0 < (t252.length : Int)) = false := decide_eq_false c54
       have c54b1 : decide (0 < t252.length) = false := decide_eq_false (by omega)
       clear c54
       obtain rfl := Option.some.inj H
       have hcz71_0 : wr.cell? ⟨gb270, 0, none⟩ = some (.int .u16 t251) := (blk_cell BK270.out 0).trans rfl
       have hcz71_1 : wr.cell? ⟨gb270, 1, none⟩ = some (.slice Ao8 t252.length co8) := (blk_cell BK270.out 1).trans rfl
       have hcz71_2 : wr.cell? ⟨gb270, 2, none⟩ = some (.int .u32 t255) := (blk_cell BK270.out 2).trans rfl
       have hcz71_3 : wr.cell? ⟨gb270, 3, none⟩ = some (.int .u32 t256) := (blk_cell BK270.out 3).trans rfl
       have hcz71_4 : wr.cell? ⟨gb270, 4, none⟩ = some (.int .u64 t257) := (blk_cell BK270.out 4).trans rfl
       have hcz71_5 : wr.cell? ⟨gb270, 5, none⟩ = some (.int .u64 t258) := (blk_cell BK270.out 5).trans rfl
       have hcz71_6 : wr.cell? ⟨gb270, 6, none⟩ = some (.int .u64 t259) := (blk_cell BK270.out 6).trans rfl
       have hcz71_7 : wr.cell? ⟨gb270, 7, none⟩ = some (.int .u64 t260) := (blk_cell BK270.out 7).trans rfl
       have hcz71_8 : wr.cell? ⟨gb270, 8, none⟩ = some (.int .u64 t261) := (blk_cell BK270.out 8).trans rfl
       have hcz71_9 : wr.cell? ⟨gb270, 9, none⟩ = some (.int .u32 t262) := (blk_cell BK270.out 9).trans rfl
       have hcz71_10 : wr.cell? ⟨gb270, 10, none⟩ = some (.int .u32 t263) := (blk_cell BK270.out 10).trans rfl
       have hcz71_11 : wr.cell? ⟨gb270, 11, none⟩ = some (.int .u64 t264) := (blk_cell BK270.out 11).trans rfl
       have hcz71_12 : wr.cell? ⟨gb270, 12, none⟩ = some (.int .u64 t265) := (blk_cell BK270.out 12).trans rfl
       have hcz71_13 : wr.cell? ⟨gb270, 13, none⟩ = some (.int .u64 t266) := (blk_cell BK270.out 13).trans rfl
       have hcz71_14 : wr.cell? ⟨gb270, 14, none⟩ = some (.int .u64 t267) := (blk_cell BK270.out 14).trans rfl
       have hcz71_15 : wr.cell? ⟨gb270, 15, none⟩ = some (.int .u64 t268) := (blk_cell BK270.out 15).trans rfl
       have hfz71_0 := blk_frozen BK270.out 0
       have hfz71_1 := blk_frozen BK270.out 1
       have hfz71_2 := blk_frozen BK270.out 2
       have hfz71_3 := blk_frozen BK270.out 3
       have hfz71_4 := blk_frozen BK270.out 4
       have hfz71_5 := blk_frozen BK270.out 5
       have hfz71_6 := blk_frozen BK270.out 6
       have hfz71_7 := blk_frozen BK270.out 7
       have hfz71_8 := blk_frozen BK270.out 8
       have hfz71_9 := blk_frozen BK270.out 9
       have hfz71_10 := blk_frozen BK270.out 10
       have hfz71_11 := blk_frozen BK270.out 11
       have hfz71_12 := blk_frozen BK270.out 12
       have hfz71_13 := blk_frozen BK270.out 13
       have hfz71_14 := blk_frozen BK270.out 14
       have hfz71_15 := blk_frozen BK270.out 15
       go_wp2_with (first | ((with_reducible refine gate_dst (N := 48) rfl ?_); refine HeadBox.load_block (ty := 32) (x := .tmp 7) rfl rfl rfl BK276.out Try.underlying32 rfl (by kernel_rfl) ?_) | ((with_reducible refine gate_dst (N := 54) rfl ?_); refine HeadBox.load_block (ty := 32) (x := .tmp 7) rfl rfl rfl BK276.out Try.underlying32 rfl (by kernel_rfl) ?_) | ((with_reducible refine gate_dst (N := 64) rfl ?_); refine HeadBox.load_block (ty := 32) (x := .tmp 7) rfl rfl rfl BK276.out Try.underlying32 rfl (by kernel_rfl) ?_) | ((with_reducible refine gate_dst (N := 98) rfl ?_); refine HeadBox.load_block (ty := 32) (x := .tmp 7) rfl rfl rfl BK276.out Try.underlying32 rfl (by kernel_rfl) ?_) | ((with_reducible refine gate_dst (N := 106) rfl ?_); refine HeadBox.load_block (ty := 37) (x := .tmp 3) rfl rfl rfl BK270.out Try.underlying37 rfl (by kernel_rfl) ?_) | ((with_reducible refine gate_dst (N := 113) rfl ?_); refine HeadBox.load_block (ty := 37) (x := .tmp 3) rfl rfl rfl BK270.out Try.underlying37 rfl (by kernel_rfl) ?_))
       go_ret
       exact ⟨by first | rfl | (simp [errW_none, errW_some] <;> rfl) | (simp [*, errW_none, errW_some] <;> rfl), by repeat (first | (with_reducible first | exact HB.out | apply below_alloc | apply pw_below_drewN | apply below_drew1 | refine below_set ?_ GE270.out) | exact HB.out)⟩
  ·
   rw [if_neg c4] at H
   have c4b0 : (t269 == 0) = false := beq_eq_false_iff_ne.mpr c4
   have c4b1 : (t269 != 0) = true := bne_iff_ne.mpr c4
   by_cases c72 : (t252.length : Int) = 0
   ·
    rw [if_pos c72] at H
    have c72b0 : ((t252.length : Int) == 0) = true := beq_iff_eq.mpr c72
    have c72b1 : ((t252.length : Int) != 0) = false := bne_eq_false_iff_eq.mpr c72
    clear c72
    replace H := Option.bind_eq_some_iff.mp H
    obtain ⟨t271, A730, H⟩ := H
    replace H : (some t271) = some r := H
    have A73 := Aside0.mk A730
    clear A730
    obtain rfl := Option.some.inj H
    go_enter Try.func4, Try.ntmps4
    go_wp2_with (first | ((with_reducible refine gate_dst (N := 48) rfl ?_); refine HeadBox.load_block (ty := 32) (x := .tmp 7) rfl rfl rfl BK276.out Try.underlying32 rfl (by kernel_rfl) ?_) | ((with_reducible refine gate_dst (N := 54) rfl ?_); refine HeadBox.load_block (ty := 32) (x := .tmp 7) rfl rfl rfl BK276.out Try.underlying32 rfl (by kernel_rfl) ?_) | ((with_reducible refine gate_dst (N := 64) rfl ?_); refine HeadBox.load_block (ty := 32) (x := .tmp 7) rfl rfl rfl BK276.out Try.underlying32 rfl (by kernel_rfl) ?_) | ((with_reducible refine gate_dst (N := 98) rfl ?_); refine HeadBox.load_block (ty := 32) (x := .tmp 7) rfl rfl rfl BK276.out Try.underlying32 rfl (by kernel_rfl) ?_) | ((with_reducible refine gate_dst (N := 106) rfl ?_); refine HeadBox.load_block (ty := 37) (x := .tmp 3) rfl rfl rfl BK270.out Try.underlying37 rfl (by kernel_rfl) ?_) | ((with_reducible refine gate_dst (N := 113) rfl ?_); refine HeadBox.load_block (ty := 37) (x := .tmp 3) rfl rfl rfl BK270.out Try.underlying37 rfl (by kernel_rfl) ?_) | ((with_reducible refine gate_callee (f := 14) rfl ?_); refine goesL_ (some 13) rfl rfl Try.func14 (by kernel_rfl) rfl #[.slice A0 l0.length c0] rfl (by (try simp only [List.map_toArray, List.map_cons, List.map_nil]); first | done | rfl | (simp only [List.length_drop, List.length_take]; rfl)) ?_; (with_reducible refine (head_Parse.calls k _ _ l0 t251 t252 t255 t256 t257 t258 t259 t260 t261 t262 t263 t264 t265 t266 t267 t268 t269 _ ?side1 ?side2 A3.out).mono ?_); (case side1 => repeat (first | exact HR0.out | (with_reducible refine Kd.C_alloc ?_ _) | (with_reducible refine Kd.C_drewN ?_ _) | (with_reducible refine Kd.C_drew ?_))); (case side2 => exact HC0.out); rintro e w74 ⟨v253, rfl, ho0, hb⟩; refine ⟨_, rfl, ?_⟩; have n0_ := Aside0.mk (Kd.R_lower ho0 (below_size (by repeat (first | (with_reducible first | exact HB.out | apply below_alloc | apply pw_below_drewN | apply below_drew1) | exact HB.out)))); have n1_ := Aside0.mk (below_step (by repeat (first | (with_reducible first | exact HB.out | apply below_alloc | apply pw_below_drewN | apply below_drew1) | exact HB.out)) hb); clear HB; have HO254 := n0_; have HB := n1_; clear n0_ n1_; (try clear hb); (try clear hb2); (try clear hk); (try clear hi); (try clear ho0)) | ((with_reducible refine gate_dst (N := 3) rfl ?_); (try (refine gate_guard (by rfl) ?_; dsimp only)); refine box_event ?hg (N := 3) ?hd (cs := #[.int .u16 0, .slice none 0 0, .int .u32 0, .int .u32 0, .int .u64 0, .int .u64 0, .int .u64 0, .int .u64 0, .int .u64 0, .int .u32 0, .int .u32 0, .int .u64 0, .int .u64 0, .int .u64 0, .int .u64 0, .int .u64 0]) (t := 37) ?hr ?_; (case hd => rfl); (case hg => rfl); (case hr => first | (go_simp; done) | (go_simp; rfl)); intro gb270 hg w75 hbox hb; have n0_ := Aside0.mk (Kd.R_below (by (with_reducible repeat (first | apply Kd.R_alloc | apply Kd.R_drewN | apply Kd.R_drew)); exact HO254.out) hb); have n1_ := Aside0.mk (below_step (by repeat (first | (with_reducible first | exact HB.out | apply below_alloc | apply pw_below_drewN | apply below_drew1) | exact HB.out)) hb); have n2_ := Aside0.mk (hbox); have n3_ := Aside0.mk ((by rw [hg]; exact (below_size (by repeat (first | (with_reducible first | exact HB.out | apply below_alloc | apply pw_below_drewN | apply below_drew1) | exact HB.out))) : w.heap.size ≤ gb270)); have n4_ := Aside0.mk ((by rw [hg]; exact (below_size (by repeat (first | (with_reducible first | exact HB.out | apply below_alloc | apply pw_below_drewN | apply below_drew1) | exact HB.out))) : w.heap.size ≤ gb270)); clear HO254; clear HB; have HO254 := n0_; have HB := n1_; have BK270 := n2_; have GW270 := n3_; have GE270 := n4_; clear n0_ n1_ n2_ n3_ n4_; clear hb hbox hg; have hcz76_0 : w75.cell? ⟨gb270, 0, none⟩ = some (.int .u16 0) := (blk_cell BK270.out 0).trans rfl; have hcz76_1 : w75.cell? ⟨gb270, 1, none⟩ = some (.slice none 0 0) := (blk_cell BK270.out 1).trans rfl; have hcz76_2 : w75.cell? ⟨gb270, 2, none⟩ = some (.int .u32 0) := (blk_cell BK270.out 2).trans rfl; have hcz76_3 : w75.cell? ⟨gb270, 3, none⟩ = some (.int .u32 0) := (blk_cell BK270.out 3).trans rfl; have hcz76_4 : w75.cell? ⟨gb270, 4, none⟩ = some (.int .u64 0) := (blk_cell BK270.out 4).trans rfl; have hcz76_5 : w75.cell? ⟨gb270, 5, none⟩ = some (.int .u64 0) := (blk_cell BK270.out 5).trans rfl; have hcz76_6 : w75.cell? ⟨gb270, 6, none⟩ = some (.int .u64 0) := (blk_cell BK270.out 6).trans rfl; have hcz76_7 : w75.cell? ⟨gb270, 7, none⟩ = some (.int .u64 0) := (blk_cell BK270.out 7).trans rfl; have hcz76_8 : w75.cell? ⟨gb270, 8, none⟩ = some (.int .u64 0) := (blk_cell BK270.out 8).trans rfl; have hcz76_9 : w75.cell? ⟨gb270, 9, none⟩ = some (.int .u32 0) := (blk_cell BK270.out 9).trans rfl; have hcz76_10 : w75.cell? ⟨gb270, 10, none⟩ = some (.int .u32 0) := (blk_cell BK270.out 10).trans rfl; have hcz76_11 : w75.cell? ⟨gb270, 11, none⟩ = some (.int .u64 0) := (blk_cell BK270.out 11).trans rfl; have hcz76_12 : w75.cell? ⟨gb270, 12, none⟩ = some (.int .u64 0) := (blk_cell BK270.out 12).trans rfl; have hcz76_13 : w75.cell? ⟨gb270, 13, none⟩ = some (.int .u64 0) := (blk_cell BK270.out 13).trans rfl; have hcz76_14 : w75.cell? ⟨gb270, 14, none⟩ = some (.int .u64 0) := (blk_cell BK270.out 14).trans rfl; have hcz76_15 : w75.cell? ⟨gb270, 15, none⟩ = some (.int .u64 0) := (blk_cell BK270.out 15).trans rfl; have hfz76_0 := blk_frozen BK270.out 0; have hfz76_1 := blk_frozen BK270.out 1; have hfz76_2 := blk_frozen BK270.out 2; have hfz76_3 := blk_frozen BK270.out 3; have hfz76_4 := blk_frozen BK270.out 4; have hfz76_5 := blk_frozen BK270.out 5; have hfz76_6 := blk_frozen BK270.out 6; have hfz76_7 := blk_frozen BK270.out 7; have hfz76_8 := blk_frozen BK270.out 8; have hfz76_9 := blk_frozen BK270.out 9; have hfz76_10 := blk_frozen BK270.out 10; have hfz76_11 := blk_frozen BK270.out 11; have hfz76_12 := blk_frozen BK270.out 12; have hfz76_13 := blk_frozen BK270.out 13; have hfz76_14 := blk_frozen BK270.out 14; have hfz76_15 := blk_frozen BK270.out 15; obtain ⟨Ao77, co77, eo77⟩ := Kd.R_slice HO254.out; subst eo77) | ((with_reducible refine gate_store (t := 37) (p := 3) rfl ?_); refine HeadBox.store_letter (ty := 37) (x := .tmp 3) (y := .tmp 14) gb270 0 #[.int .u16 t251, .slice Ao77 t252.length co77, .int .u32 t255, .int .u32 t256, .int .u64 t257, .int .u64 t258, .int .u64 t259, .int .u64 t260, .int .u64 t261, .int .u32 t262, .int .u32 t263, .int .u64 t264, .int .u64 t265, .int .u64 t266, .int .u64 t267, .int .u64 t268] rfl rfl rfl rfl (show (World.heap _)[gb270]? = some (.cells #[.int .u16 0, .slice none 0 0, .int .u32 0, .int .u32 0, .int .u64 0, .int .u64 0, .int .u64 0, .int .u64 0, .int .u64 0, .int .u32 0, .int .u32 0, .int .u64 0, .int .u64 0, .int .u64 0, .int .u64 0, .int .u64 0] 37 (0, 0)) from (by (with_reducible repeat (first | refine blk_drewN ?_ _ | refine blk_drew ?_ | refine blk_alloc ?_ _)); exact BK270.out)) (by exact (show 0 + 16 ≤ 16 by decide)) (by kernel_rfl) (all_oneCell_toArray (by simp [Value.oneCell'])) ?_; intro w78 hw; have n0_ : Aside0 (Kd.R k32 32 w78 w.heap.size (fun _ => True) (.slice Ao77 t252.length co77) t252) := ⟨(by rw [hw]; refine HeadBox.R_puts gb270 37 (by decide) _ _ _ #[.int .u16 0, .slice none 0 0, .int .u32 0, .int .u32 0, .int .u64 0, .int .u64 0, .int .u64 0, .int .u64 0, .int .u64 0, .int .u32 0, .int .u32 0, .int .u64 0, .int .u64 0, .int .u64 0, .int .u64 0, .int .u64 0] ?_ ?_; (· ((with_reducible repeat (first | refine blk_drewN ?_ _ | refine blk_drew ?_ | refine blk_alloc ?_ _)); exact BK270.out)); (· (exact (by (with_reducible repeat (first | apply Kd.R_alloc | apply Kd.R_drewN | apply Kd.R_drew)); exact HO254.out))))⟩; have n1_ : Aside0 (w78.heap[gb270]? = some (.cells #[.int .u16 t251, .slice Ao77 t252.length co77, .int .u32 t255, .int .u32 t256, .int .u64 t257, .int .u64 t258, .int .u64 t259, .int .u64 t260, .int .u64 t261, .int .u32 t262, .int .u32 t263, .int .u64 t264, .int .u64 t265, .int .u64 t266, .int .u64 t267, .int .u64 t268] 37 (0, 0))) := ⟨(by rw [hw]; refine (HeadBox.blk_puts gb270 37 _ _ _ #[.int .u16 0, .slice none 0 0, .int .u32 0, .int .u32 0, .int .u64 0, .int .u64 0, .int .u64 0, .int .u64 0, .int .u64 0, .int .u32 0, .int .u32 0, .int .u64 0, .int .u64 0, .int .u64 0, .int .u64 0, .int .u64 0] ?_).trans ?_; (· ((with_reducible repeat (first | refine blk_drewN ?_ _ | refine blk_drew ?_ | refine blk_alloc ?_ _)); exact BK270.out)); (· (exact congrArg (fun c_ => some (Obj.cells c_ 37 (0, 0))) (show HeadBox.putMany #[.int .u16 0, .slice none 0 0, .int .u32 0, .int .u32 0, .int .u64 0, .int .u64 0, .int .u64 0, .int .u64 0, .int .u64 0, .int .u32 0, .int .u32 0, .int .u64 0, .int .u64 0, .int .u64 0, .int .u64 0, .int .u64 0] 0 [.int .u16 t251, .slice Ao77 t252.length co77, .int .u32 t255, .int .u32 t256, .int .u64 t257, .int .u64 t258, .int .u64 t259, .int .u64 t260, .int .u64 t261, .int .u32 t262, .int .u32 t263, .int .u64 t264, .int .u64 t265, .int .u64 t266, .int .u64 t267, .int .u64 t268] = #[.int .u16 t251, .slice Ao77 t252.length co77, .int .u32 t255, .int .u32 t256, .int .u64 t257, .int .u64 t258, .int .u64 t259, .int .u64 t260, .int .u64 t261, .int .u32 t262, .int .u32 t263, .int .u64 t264, .int .u64 t265, .int .u64 t266, .int .u64 t267, .int .u64 t268] by simp [HeadBox.putMany]))))⟩; have n2_ : Aside0 (Below w.heap.size w w78) := ⟨(by rw [hw]; refine HeadBox.below_puts gb270 w GE270.out _ _ _ ?_; exact (by repeat (first | (with_reducible first | exact HB.out | apply below_alloc | apply pw_below_drewN | apply below_drew1 | refine below_set ?_ GE270.out) | exact HB.out)))⟩; clear hw; clear HO254; clear BK270; clear HB; have HO254 := n0_; have BK270 := n1_; have HB := n2_; clear n0_ n1_ n2_; have hcz79_0 : w78.cell? ⟨gb270, 0, none⟩ = some (.int .u16 t251) := (blk_cell BK270.out 0).trans rfl; have hcz79_1 : w78.cell? ⟨gb270, 1, none⟩ = some (.slice Ao77 t252.length co77) := (blk_cell BK270.out 1).trans rfl; have hcz79_2 : w78.cell? ⟨gb270, 2, none⟩ = some (.int .u32 t255) := (blk_cell BK270.out 2).trans rfl; have hcz79_3 : w78.cell? ⟨gb270, 3, none⟩ = some (.int .u32 t256) := (blk_cell BK270.out 3).trans rfl; have hcz79_4 : w78.cell? ⟨gb270, 4, none⟩ = some (.int .u64 t257) := (blk_cell BK270.out 4).trans rfl; have hcz79_5 : w78.cell? ⟨gb270, 5, none⟩ = some (.int .u64 t258) := (blk_cell BK270.out 5).trans rfl; have hcz79_6 : w78.cell? ⟨gb270, 6, none⟩ = some (.int .u64 t259) := (blk_cell BK270.out 6).trans rfl; have hcz79_7 : w78.cell? ⟨gb270, 7, none⟩ = some (.int .u64 t260) := (blk_cell BK270.out 7).trans rfl; have hcz79_8 : w78.cell? ⟨gb270, 8, none⟩ = some (.int .u64 t261) := (blk_cell BK270.out 8).trans rfl; have hcz79_9 : w78.cell? ⟨gb270, 9, none⟩ = some (.int .u32 t262) := (blk_cell BK270.out 9).trans rfl; have hcz79_10 : w78.cell? ⟨gb270, 10, none⟩ = some (.int .u32 t263) := (blk_cell BK270.out 10).trans rfl; have hcz79_11 : w78.cell? ⟨gb270, 11, none⟩ = some (.int .u64 t264) := (blk_cell BK270.out 11).trans rfl; have hcz79_12 : w78.cell? ⟨gb270, 12, none⟩ = some (.int .u64 t265) := (blk_cell BK270.out 12).trans rfl; have hcz79_13 : w78.cell? ⟨gb270, 13, none⟩ = some (.int .u64 t266) := (blk_cell BK270.out 13).trans rfl; have hcz79_14 : w78.cell? ⟨gb270, 14, none⟩ = some (.int .u64 t267) := (blk_cell BK270.out 14).trans rfl; have hcz79_15 : w78.cell? ⟨gb270, 15, none⟩ = some (.int .u64 t268) := (blk_cell BK270.out 15).trans rfl; have hfz79_0 := blk_frozen BK270.out 0; have hfz79_1 := blk_frozen BK270.out 1; have hfz79_2 := blk_frozen BK270.out 2; have hfz79_3 := blk_frozen BK270.out 3; have hfz79_4 := blk_frozen BK270.out 4; have hfz79_5 := blk_frozen BK270.out 5; have hfz79_6 := blk_frozen BK270.out 6; have hfz79_7 := blk_frozen BK270.out 7; have hfz79_8 := blk_frozen BK270.out 8; have hfz79_9 := blk_frozen BK270.out 9; have hfz79_10 := blk_frozen BK270.out 10; have hfz79_11 := blk_frozen BK270.out 11; have hfz79_12 := blk_frozen BK270.out 12; have hfz79_13 := blk_frozen BK270.out 13; have hfz79_14 := blk_frozen BK270.out 14; have hfz79_15 := blk_frozen BK270.out 15) | (go_at_call 13; (with_reducible refine (messuagelaw08_alive.calls k  t271 _ A73.out).mono ?_); rintro e w80 ⟨rfl, hb⟩; have n0_ := Aside0.mk (Kd.R_below (by (with_reducible repeat (first | apply Kd.R_alloc | apply Kd.R_drewN | apply Kd.R_drew)); exact HO254.out) hb); have n1_ := Aside0.mk (blk_below (g := gb270) (o := .cells #[.int .u16 t251, .slice Ao77 t252.length co77, .int .u32 t255, .int .u32 t256, .int .u64 t257, .int .u64 t258, .int .u64 t259, .int .u64 t260, .int .u64 t261, .int .u32 t262, .int .u32 t263, .int .u64 t264, .int .u64 t265, .int .u64 t266, .int .u64 t267, .int .u64 t268] 37 (0, 0)) (by (with_reducible repeat (first | refine blk_drewN ?_ _ | refine blk_drew ?_ | refine blk_alloc ?_ _)); exact BK270.out) hb); have n2_ := Aside0.mk (below_step (by repeat (first | (with_reducible first | exact HB.out | apply below_alloc | apply pw_below_drewN | apply below_drew1 | refine below_set ?_ GE270.out) | exact HB.out)) hb); clear HO254; clear BK270; clear HB; have HO254 := n0_; have BK270 := n1_; have HB := n2_; clear n0_ n1_ n2_; (try clear hb); (try clear hb2); (try clear hk); (try clear hi)))
    go_ret
    exact ⟨by first | rfl | (simp [errW_none, errW_some] <;> rfl) | (simp [*, errW_none, errW_some] <;> rfl), by repeat (first | (with_reducible first | exact HB.out | apply below_alloc | apply pw_below_drewN | apply below_drew1 | refine below_set ?_ GE270.out) | exact HB.out)⟩
   ·
    rw [if_neg c72] at H
    have c72b0 : ((t252.length : Int) == 0) = false := beq_eq_false_iff_ne.mpr c72
    have c72b1 : ((t252.length : Int) != 0) = true := bne_iff_ne.mpr c72
    have c72b2 : ¬ (t252 = []) := fun h_ => c72 (by rw [h_]; rfl)
    obtain rfl := Option.some.inj H
    go_enter Try.func4, Try.ntmps4
    go_wp2_with (first | ((with_reducible refine gate_dst (N := 48) rfl ?_); refine HeadBox.load_block (ty := 32) (x := .tmp 7) rfl rfl rfl BK276.out Try.underlying32 rfl (by kernel_rfl) ?_) | ((with_reducible refine gate_dst (N := 54) rfl ?_); refine HeadBox.load_block (ty := 32) (x := .tmp 7) rfl rfl rfl BK276.out Try.underlying32 rfl (by kernel_rfl) ?_) | ((with_reducible refine gate_dst (N := 64) rfl ?_); refine HeadBox.load_block (ty := 32) (x := .tmp 7) rfl rfl rfl BK276.out Try.underlying32 rfl (by kernel_rfl) ?_) | ((with_reducible refine gate_dst (N := 98) rfl ?_); refine HeadBox.load_block (ty := 32) (x := .tmp 7) rfl rfl rfl BK276.out Try.underlying32 rfl (by kernel_rfl) ?_) | ((with_reducible refine gate_dst (N := 106) rfl ?_); refine HeadBox.load_block (ty := 37) (x := .tmp 3) rfl rfl rfl BK270.out Try.underlying37 rfl (by kernel_rfl) ?_) | ((with_reducible refine gate_dst (N := 113) rfl ?_); refine HeadBox.load_block (ty := 37) (x := .tmp 3) rfl rfl rfl BK270.out Try.underlying37 rfl (by kernel_rfl) ?_) | ((with_reducible refine gate_callee (f := 14) rfl ?_); refine goesL_ (some 13) rfl rfl Try.func14 (by kernel_rfl) rfl #[.slice A0 l0.length c0] rfl (by (try simp only [List.map_toArray, List.map_cons, List.map_nil]); first | done | rfl | (simp only [List.length_drop, List.length_take]; rfl)) ?_; (with_reducible refine (head_Parse.calls k _ _ l0 t251 t252 t255 t256 t257 t258 t259 t260 t261 t262 t263 t264 t265 t266 t267 t268 t269 _ ?side1 ?side2 A3.out).mono ?_); (case side1 => repeat (first | exact HR0.out | (with_reducible refine Kd.C_alloc ?_ _) | (with_reducible refine Kd.C_drewN ?_ _) | (with_reducible refine Kd.C_drew ?_))); (case side2 => exact HC0.out); rintro e w81 ⟨v253, rfl, ho0, hb⟩; refine ⟨_, rfl, ?_⟩; have n0_ := Aside0.mk (Kd.R_lower ho0 (below_size (by repeat (first | (with_reducible first | exact HB.out | apply below_alloc | apply pw_below_drewN | apply below_drew1) | exact HB.out)))); have n1_ := Aside0.mk (below_step (by repeat (first | (with_reducible first | exact HB.out | apply below_alloc | apply pw_below_drewN | apply below_drew1) | exact HB.out)) hb); clear HB; have HO254 := n0_; have HB := n1_; clear n0_ n1_; (try clear hb); (try clear hb2); (try clear hk); (try clear hi); (try clear ho0)) | ((with_reducible refine gate_dst (N := 3) rfl ?_); (try (refine gate_guard (by rfl) ?_; dsimp only)); refine box_event ?hg (N := 3) ?hd (cs := #[.int .u16 0, .slice none 0 0, .int .u32 0, .int .u32 0, .int .u64 0, .int .u64 0, .int .u64 0, .int .u64 0, .int .u64 0, .int .u32 0, .int .u32 0, .int .u64 0, .int .u64 0, .int .u64 0, .int .u64 0, .int .u64 0]) (t := 37) ?hr ?_; (case hd => rfl); (case hg => rfl); (case hr => first | (go_simp; done) | (go_simp; rfl)); intro gb270 hg w82 hbox hb; have n0_ := Aside0.mk (Kd.R_below (by (with_reducible repeat (first | apply Kd.R_alloc | apply Kd.R_drewN | apply Kd.R_drew)); exact HO254.out) hb); have n1_ := Aside0.mk (below_step (by repeat (first | (with_reducible first | exact HB.out | apply below_alloc | apply pw_below_drewN | apply below_drew1) | exact HB.out)) hb); have n2_ := Aside0.mk (hbox); have n3_ := Aside0.mk ((by rw [hg]; exact (below_size (by repeat (first | (with_reducible first | exact HB.out | apply below_alloc | apply pw_below_drewN | apply below_drew1) | exact HB.out))) : w.heap.size ≤ gb270)); have n4_ := Aside0.mk ((by rw [hg]; exact (below_size (by repeat (first | (with_reducible first | exact HB.out | apply below_alloc | apply pw_below_drewN | apply below_drew1) | exact HB.out))) : w.heap.size ≤ gb270)); clear HO254; clear HB; have HO254 := n0_; have HB := n1_; have BK270 := n2_; have GW270 := n3_; have GE270 := n4_; clear n0_ n1_ n2_ n3_ n4_; clear hb hbox hg; have hcz83_0 : w82.cell? ⟨gb270, 0, none⟩ = some (.int .u16 0) := (blk_cell BK270.out 0).trans rfl; have hcz83_1 : w82.cell? ⟨gb270, 1, none⟩ = some (.slice none 0 0) := (blk_cell BK270.out 1).trans rfl; have hcz83_2 : w82.cell? ⟨gb270, 2, none⟩ = some (.int .u32 0) := (blk_cell BK270.out 2).trans rfl; have hcz83_3 : w82.cell? ⟨gb270, 3, none⟩ = some (.int .u32 0) := (blk_cell BK270.out 3).trans rfl; have hcz83_4 : w82.cell? ⟨gb270, 4, none⟩ = some (.int .u64 0) := (blk_cell BK270.out 4).trans rfl; have hcz83_5 : w82.cell? ⟨gb270, 5, none⟩ = some (.int .u64 0) := (blk_cell BK270.out 5).trans rfl; have hcz83_6 : w82.cell? ⟨gb270, 6, none⟩ = some (.int .u64 0) := (blk_cell BK270.out 6).trans rfl; have hcz83_7 : w82.cell? ⟨gb270, 7, none⟩ = some (.int .u64 0) := (blk_cell BK270.out 7).trans rfl; have hcz83_8 : w82.cell? ⟨gb270, 8, none⟩ = some (.int .u64 0) := (blk_cell BK270.out 8).trans rfl; have hcz83_9 : w82.cell? ⟨gb270, 9, none⟩ = some (.int .u32 0) := (blk_cell BK270.out 9).trans rfl; have hcz83_10 : w82.cell? ⟨gb270, 10, none⟩ = some (.int .u32 0) := (blk_cell BK270.out 10).trans rfl; have hcz83_11 : w82.cell? ⟨gb270, 11, none⟩ = some (.int .u64 0) := (blk_cell BK270.out 11).trans rfl; have hcz83_12 : w82.cell? ⟨gb270, 12, none⟩ = some (.int .u64 0) := (blk_cell BK270.out 12).trans rfl; have hcz83_13 : w82.cell? ⟨gb270, 13, none⟩ = some (.int .u64 0) := (blk_cell BK270.out 13).trans rfl; have hcz83_14 : w82.cell? ⟨gb270, 14, none⟩ = some (.int .u64 0) := (blk_cell BK270.out 14).trans rfl; have hcz83_15 : w82.cell? ⟨gb270, 15, none⟩ = some (.int .u64 0) := (blk_cell BK270.out 15).trans rfl; have hfz83_0 := blk_frozen BK270.out 0; have hfz83_1 := blk_frozen BK270.out 1; have hfz83_2 := blk_frozen BK270.out 2; have hfz83_3 := blk_frozen BK270.out 3; have hfz83_4 := blk_frozen BK270.out 4; have hfz83_5 := blk_frozen BK270.out 5; have hfz83_6 := blk_frozen BK270.out 6; have hfz83_7 := blk_frozen BK270.out 7; have hfz83_8 := blk_frozen BK270.out 8; have hfz83_9 := blk_frozen BK270.out 9; have hfz83_10 := blk_frozen BK270.out 10; have hfz83_11 := blk_frozen BK270.out 11; have hfz83_12 := blk_frozen BK270.out 12; have hfz83_13 := blk_frozen BK270.out 13; have hfz83_14 := blk_frozen BK270.out 14; have hfz83_15 := blk_frozen BK270.out 15; obtain ⟨Ao84, co84, eo84⟩ := Kd.R_slice HO254.out; subst eo84) | ((with_reducible refine gate_store (t := 37) (p := 3) rfl ?_); refine HeadBox.store_letter (ty := 37) (x := .tmp 3) (y := .tmp 14) gb270 0 #[.int .u16 t251, .slice Ao84 t252.length co84, .int .u32 t255, .int .u32 t256, .int .u64 t257, .int .u64 t258, .int .u64 t259, .int .u64 t260, .int .u64 t261, .int .u32 t262, .int .u32 t263, .int .u64 t264, .int .u64 t265, .int .u64 t266, .int .u64 t267, .int .u64 t268] rfl rfl rfl rfl (show (World.heap _)[gb270]? = some (.cells #[.int .u16 0, .slice none 0 0, .int .u32 0, .int .u32 0, .int .u64 0, .int .u64 0, .int .u64 0, .int .u64 0, .int .u64 0, .int .u32 0, .int .u32 0, .int .u64 0, .int .u64 0, .int .u64 0, .int .u64 0, .int .u64 0] 37 (0, 0)) from (by (with_reducible repeat (first | refine blk_drewN ?_ _ | refine blk_drew ?_ | refine blk_alloc ?_ _)); exact BK270.out)) (by exact (show 0 + 16 ≤ 16 by decide)) (by kernel_rfl) (all_oneCell_toArray (by simp [Value.oneCell'])) ?_; intro w85 hw; have n0_ : Aside0 (Kd.R k32 32 w85 w.heap.size (fun _ => True) (.slice Ao84 t252.length co84) t252) := ⟨(by rw [hw]; refine HeadBox.R_puts gb270 37 (by decide) _ _ _ #[.int .u16 0, .slice none 0 0, .int .u32 0, .int .u32 0, .int .u64 0, .int .u64 0, .int .u64 0, .int .u64 0, .int .u64 0, .int .u32 0, .int .u32 0, .int .u64 0, .int .u64 0, .int .u64 0, .int .u64 0, .int .u64 0] ?_ ?_; (· ((with_reducible repeat (first | refine blk_drewN ?_ _ | refine blk_drew ?_ | refine blk_alloc ?_ _)); exact BK270.out)); (· (exact (by (with_reducible repeat (first | apply Kd.R_alloc | apply Kd.R_drewN | apply Kd.R_drew)); exact HO254.out))))⟩; have n1_ : Aside0 (w85.heap[gb270]? = some (.cells #[.int .u16 t251, .slice Ao84 t252.length co84, .int .u32 t255, .int .u32 t256, .int .u64 t257, .int .u64 t258, .int .u64 t259, .int .u64 t260, .int .u64 t261, .int .u32 t262, .int .u32 t263, .int .u64 t264, .int .u64 t265, .int .u64 t266, .int .u64 t267, .int .u64 t268] 37 (0, 0))) := ⟨(by rw [hw]; refine (HeadBox.blk_puts gb270 37 _ _ _ #[.int .u16 0, .slice none 0 0, .int .u32 0, .int .u32 0, .int .u64 0, .int .u64 0, .int .u64 0, .int .u64 0, .int .u64 0, .int .u32 0, .int .u32 0, .int .u64 0, .int .u64 0, .int .u64 0, .int .u64 0, .int .u64 0] ?_).trans ?_; (· ((with_reducible repeat (first | refine blk_drewN ?_ _ | refine blk_drew ?_ | refine blk_alloc ?_ _)); exact BK270.out)); (· (exact congrArg (fun c_ => some (Obj.cells c_ 37 (0, 0))) (show HeadBox.putMany #[.int .u16 0, .slice none 0 0, .int .u32 0, .int .u32 0, .int .u64 0, .int .u64 0, .int .u64 0, .int .u64 0, .int .u64 0, .int .u32 0, .int .u32 0, .int .u64 0, .int .u64 0, .int .u64 0, .int .u64 0, .int .u64 0] 0 [.int .u16 t251, .slice Ao84 t252.length co84, .int .u32 t255, .int .u32 t256, .int .u64 t257, .int .u64 t258, .int .u64 t259, .int .u64 t260, .int .u64 t261, .int .u32 t262, .int .u32 t263, .int .u64 t264, .int .u64 t265, .int .u64 t266, .int .u64 t267, .int .u64 t268] = #[.int .u16 t251, .slice Ao84 t252.length co84, .int .u32 t255, .int .u32 t256, .int .u64 t257, .int .u64 t258, .int .u64 t259, .int .u64 t260, .int .u64 t261, .int .u32 t262, .int .u32 t263, .int .u64 t264, .int .u64 t265, .int .u64 t266, .int .u64 t267, .int .u64 t268] by simp [HeadBox.putMany]))))⟩; have n2_ : Aside0 (Below w.heap.size w w85) := ⟨(by rw [hw]; refine HeadBox.below_puts gb270 w GE270.out _ _ _ ?_; exact (by repeat (first | (with_reducible first | exact HB.out | apply below_alloc | apply pw_below_drewN | apply below_drew1 | refine below_set ?_ GE270.out) | exact HB.out)))⟩; clear hw; clear HO254; clear BK270; clear HB; have HO254 := n0_; have BK270 := n1_; have HB := n2_; clear n0_ n1_ n2_; have hcz86_0 : w85.cell? ⟨gb270, 0, none⟩ = some (.int .u16 t251) := (blk_cell BK270.out 0).trans rfl; have hcz86_1 : w85.cell? ⟨gb270, 1, none⟩ = some (.slice Ao84 t252.length co84) := (blk_cell BK270.out 1).trans rfl; have hcz86_2 : w85.cell? ⟨gb270, 2, none⟩ = some (.int .u32 t255) := (blk_cell BK270.out 2).trans rfl; have hcz86_3 : w85.cell? ⟨gb270, 3, none⟩ = some (.int .u32 t256) := (blk_cell BK270.out 3).trans rfl; have hcz86_4 : w85.cell? ⟨gb270, 4, none⟩ = some (.int .u64 t257) := (blk_cell BK270.out 4).trans rfl; have hcz86_5 : w85.cell? ⟨gb270, 5, none⟩ = some (.int .u64 t258) := (blk_cell BK270.out 5).trans rfl; have hcz86_6 : w85.cell? ⟨gb270, 6, none⟩ = some (.int .u64 t259) := (blk_cell BK270.out 6).trans rfl; have hcz86_7 : w85.cell? ⟨gb270, 7, none⟩ = some (.int .u64 t260) := (blk_cell BK270.out 7).trans rfl; have hcz86_8 : w85.cell? ⟨gb270, 8, none⟩ = some (.int .u64 t261) := (blk_cell BK270.out 8).trans rfl; have hcz86_9 : w85.cell? ⟨gb270, 9, none⟩ = some (.int .u32 t262) := (blk_cell BK270.out 9).trans rfl; have hcz86_10 : w85.cell? ⟨gb270, 10, none⟩ = some (.int .u32 t263) := (blk_cell BK270.out 10).trans rfl; have hcz86_11 : w85.cell? ⟨gb270, 11, none⟩ = some (.int .u64 t264) := (blk_cell BK270.out 11).trans rfl; have hcz86_12 : w85.cell? ⟨gb270, 12, none⟩ = some (.int .u64 t265) := (blk_cell BK270.out 12).trans rfl; have hcz86_13 : w85.cell? ⟨gb270, 13, none⟩ = some (.int .u64 t266) := (blk_cell BK270.out 13).trans rfl; have hcz86_14 : w85.cell? ⟨gb270, 14, none⟩ = some (.int .u64 t267) := (blk_cell BK270.out 14).trans rfl; have hcz86_15 : w85.cell? ⟨gb270, 15, none⟩ = some (.int .u64 t268) := (blk_cell BK270.out 15).trans rfl; have hfz86_0 := blk_frozen BK270.out 0; have hfz86_1 := blk_frozen BK270.out 1; have hfz86_2 := blk_frozen BK270.out 2; have hfz86_3 := blk_frozen BK270.out 3; have hfz86_4 := blk_frozen BK270.out 4; have hfz86_5 := blk_frozen BK270.out 5; have hfz86_6 := blk_frozen BK270.out 6; have hfz86_7 := blk_frozen BK270.out 7; have hfz86_8 := blk_frozen BK270.out 8; have hfz86_9 := blk_frozen BK270.out 9; have hfz86_10 := blk_frozen BK270.out 10; have hfz86_11 := blk_frozen BK270.out 11; have hfz86_12 := blk_frozen BK270.out 12; have hfz86_13 := blk_frozen BK270.out 13; have hfz86_14 := blk_frozen BK270.out 14; have hfz86_15 := blk_frozen BK270.out 15))
    go_ret
    exact ⟨by first | rfl | (simp [errW_none, errW_some] <;> rfl) | (simp [*, errW_none, errW_some] <;> rfl), by repeat (first | (with_reducible first | exact HB.out | apply below_alloc | apply pw_below_drewN | apply below_drew1 | refine below_set ?_ GE270.out) | exact HB.out)⟩


end Go.Proofs.Ytlegpojjbeglhaa.P
