/- For functions of this seat: a plain Lean function each, and the proof that the call answers so; written by a program of this session out of the translation. No condition beyond those that stand in each theorem. -/
import Derived.Test.YtlegpojjbeglhaaPx0
import Derived.Test.YtlegpojjbeglhaaPx2
import Derived.Test.YtlegpojjbeglhaaPx4
import Derived.Test.YtlegpojjbeglhaaPx5
import Derived.Test.YtlegpojjbeglhaaPx6
import Derived.Test.YtlegpojjbeglhaaHeadBox
namespace Go.Proofs.Ytlegpojjbeglhaa.P
open Go.Proofs.Ytlegpojjbeglhaa.HeadBox Go.RowKit Go.Proofs.YtlegpojjbeglhaaW.PrintWords Go.Proofs.YtlegpojjbeglhaaW.PrintLast Go.Proofs.YtlegpojjbeglhaaW.PrintMore
attribute [local go_sem] max2_int min2_int max_two min_two max_three min_three max_four min_four   -- for this text's walks alone
set_option linter.unusedVariables false
set_option linter.unusedSimpArgs false

/-! ### head_Parse: function 14 -/
mutual
def head_Parse.l0 : Nat → List Int → Int → Int → List (S32) → Int → Int → Int → List (S32) → Int → Int → Int → Int → Int → Int → Int → Int → Int → Int → Int → Int → Int → Int → Option (Int × (List (S32)) × Int × Int × Int × Int × Int × Int × Int × Int × Int × Int × Int × Int × Int × Int × Int)
 | 0, _, _, _, _, _, _, _, _, _, _, _, _, _, _, _, _, _, _, _, _, _, _ => none
 | k + 1, x0, x7, x8, x29, x30, x31, x170000, x170001, x170002, x170003, x170004, x170005, x170006, x170007, x170008, x170009, x170010, x170011, x170012, x170013, x170014, x170015 => if x31 < x30 then (if 0 ≤ x31 then (if x31 < (x29.length : Int) then (if ((rd_T32 x29 x31).f0) = 1 then ((head_load.f k ((rd_T32 x29 x31).f0) ((rd_T32 x29 x31).f1) ((rd_T32 x29 x31).f2) ((rd_T32 x29 x31).f3) ((rd_T32 x29 x31).f4) ((rd_T32 x29 x31).f5) ((rd_T32 x29 x31).f6) x170001 (IntKind.u64.wrap ((x0.length : Int)))).bind fun t174 => (if t174 = true then (if x170001.length < 2932031007402 then (head_Parse.l0 k x0 x7 x8 x29 x30 (wrap64 (x31 + 1)) x170000 (x170001 ++ [(⟨(rd_T32 x29 x31).f0, (rd_T32 x29 x31).f1, (rd_T32 x29 x31).f2, (rd_T32 x29 x31).f3, (rd_T32 x29 x31).f4, (rd_T32 x29 x31).f5, (rd_T32 x29 x31).f6⟩ : S32)]) x170002 x170003 x170004 x170005 x170006 x170007 x170008 x170009 x170010 x170011 x170012 x170013 x170014 x170015) else (none)) else (some (0, ([] : List (S32)), 0, 0, 0, 0, 0, 0, 0, 0, 0, 0, 0, 0, 0, 0, 85)))) else (if ((rd_T32 x29 x31).f0) = 2 then (head_Parse.l0 k x0 (wrap64 (x7 + 1)) x8 x29 x30 (wrap64 (x31 + 1)) x170000 x170001 ((rd_T32 x29 x31).f0) ((rd_T32 x29 x31).f1) ((rd_T32 x29 x31).f2) ((rd_T32 x29 x31).f3) ((rd_T32 x29 x31).f4) ((rd_T32 x29 x31).f5) ((rd_T32 x29 x31).f6) x170009 x170010 x170011 x170012 x170013 x170014 x170015) else (if ((rd_T32 x29 x31).f0) = 1685382482 then (head_Parse.l0 k x0 x7 (wrap64 (x8 + 1)) x29 x30 (wrap64 (x31 + 1)) x170000 x170001 x170002 x170003 x170004 x170005 x170006 x170007 x170008 ((rd_T32 x29 x31).f0) ((rd_T32 x29 x31).f1) ((rd_T32 x29 x31).f2) ((rd_T32 x29 x31).f3) ((rd_T32 x29 x31).f4) ((rd_T32 x29 x31).f5) ((rd_T32 x29 x31).f6)) else (head_Parse.l0 k x0 x7 x8 x29 x30 (wrap64 (x31 + 1)) x170000 x170001 x170002 x170003 x170004 x170005 x170006 x170007 x170008 x170009 x170010 x170011 x170012 x170013 x170014 x170015)))) else (none)) else (none)) else (if (x170001.length : Int) = 0 then (some (0, ([] : List (S32)), 0, 0, 0, 0, 0, 0, 0, 0, 0, 0, 0, 0, 0, 0, 85)) else ((head_Off.f k x170000 x170001 x170002 x170003 x170004 x170005 x170006 x170007 x170008 x170009 x170010 x170011 x170012 x170013 x170014 x170015 x170005 x170006).bind fun bt178 => (if x7 = 1 then (if bt178.2 = true then (if x170006 = 0 then (head_Parse.j1 k x8 true x170000 x170001 x170002 x170003 x170004 x170005 x170006 x170007 x170008 x170009 x170010 x170011 x170012 x170013 x170014 x170015) else (head_Parse.j1 k x8 ((Int.tmod x170005 8) != 0) x170000 x170001 x170002 x170003 x170004 x170005 x170006 x170007 x170008 x170009 x170010 x170011 x170012 x170013 x170014 x170015)) else (head_Parse.j1 k x8 true x170000 x170001 x170002 x170003 x170004 x170005 x170006 x170007 x170008 x170009 x170010 x170011 x170012 x170013 x170014 x170015)) else (head_Parse.j1 k x8 true x170000 x170001 x170002 x170003 x170004 x170005 x170006 x170007 x170008 x170009 x170010 x170011 x170012 x170013 x170014 x170015))))
def head_Parse.j1 : Nat → Int → Bool → Int → List (S32) → Int → Int → Int → Int → Int → Int → Int → Int → Int → Int → Int → Int → Int → Int → Option (Int × (List (S32)) × Int × Int × Int × Int × Int × Int × Int × Int × Int × Int × Int × Int × Int × Int × Int)
 | 0, _, _, _, _, _, _, _, _, _, _, _, _, _, _, _, _, _, _ => none
 | k + 1, x8, x101, x170000, x170001, x170002, x170003, x170004, x170005, x170006, x170007, x170008, x170009, x170010, x170011, x170012, x170013, x170014, x170015 => if x101 = true then (some (0, ([] : List (S32)), 0, 0, 0, 0, 0, 0, 0, 0, 0, 0, 0, 0, 0, 0, 86)) else (if x8 > 1 then (some (0, ([] : List (S32)), 0, 0, 0, 0, 0, 0, 0, 0, 0, 0, 0, 0, 0, 0, 87)) else (if x8 = 1 then ((head_relro.f k x170000 x170001 x170002 x170003 x170004 x170005 x170006 x170007 x170008 x170009 x170010 x170011 x170012 x170013 x170014 x170015).bind fun t180 => (if t180 = true then (some (x170000, x170001, x170002, x170003, x170004, x170005, x170006, x170007, x170008, x170009, x170010, x170011, x170012, x170013, x170014, x170015, 0)) else (some (0, ([] : List (S32)), 0, 0, 0, 0, 0, 0, 0, 0, 0, 0, 0, 0, 0, 0, 87)))) else (some (x170000, x170001, x170002, x170003, x170004, x170005, x170006, x170007, x170008, x170009, x170010, x170011, x170012, x170013, x170014, x170015, 0))))
end
def head_Parse.f (k : Nat) (l0 : List Int) : Option (Int × (List (S32)) × Int × Int × Int × Int × Int × Int × Int × Int × Int × Int × Int × Int × Int × Int × Int) := (head_Table.f l0).bind fun bt165 => (if bt165.2 = 0 then ((head_first.f l0).bind fun bt170 => (head_Parse.l0 k l0 0 0 bt165.1 (bt165.1.length : Int) 0 bt170.1 ([] : List (S32)) 0 0 0 0 0 0 0 0 0 0 0 0 0 0)) else (some (0, ([] : List (S32)), 0, 0, 0, 0, 0, 0, 0, 0, 0, 0, 0, 0, 0, 0, bt165.2)))
theorem head_Parse.mono_l : ∀ k, (∀ y0 y1 y2 y3 y4 y5 y6 y7 y8 y9 y10 y11 y12 y13 y14 y15 y16 y17 y18 y19 y20 y21, LeO (head_Parse.l0 k y0 y1 y2 y3 y4 y5 y6 y7 y8 y9 y10 y11 y12 y13 y14 y15 y16 y17 y18 y19 y20 y21) (head_Parse.l0 (k + 1) y0 y1 y2 y3 y4 y5 y6 y7 y8 y9 y10 y11 y12 y13 y14 y15 y16 y17 y18 y19 y20 y21)) ∧ (∀ y0 y1 y2 y3 y4 y5 y6 y7 y8 y9 y10 y11 y12 y13 y14 y15 y16 y17, LeO (head_Parse.j1 k y0 y1 y2 y3 y4 y5 y6 y7 y8 y9 y10 y11 y12 y13 y14 y15 y16 y17) (head_Parse.j1 (k + 1) y0 y1 y2 y3 y4 y5 y6 y7 y8 y9 y10 y11 y12 y13 y14 y15 y16 y17))
 | 0 => ⟨fun _ _ _ _ _ _ _ _ _ _ _ _ _ _ _ _ _ _ _ _ _ _ r h => by simp [head_Parse.l0] at h, fun _ _ _ _ _ _ _ _ _ _ _ _ _ _ _ _ _ _ r h => by simp [head_Parse.j1] at h⟩
 | k + 1 => by
  obtain ⟨ih0, ih1⟩ := head_Parse.mono_l k
  refine ⟨?_, ?_⟩
  ·
   intro y0 y1 y2 y3 y4 y5 y6 y7 y8 y9 y10 y11 y12 y13 y14 y15 y16 y17 y18 y19 y20 y21
   unfold head_Parse.l0
   repeat' first
   | (with_reducible exact ih0 _ _ _ _ _ _ _ _ _ _ _ _ _ _ _ _ _ _ _ _ _ _)
   | (with_reducible exact ih1 _ _ _ _ _ _ _ _ _ _ _ _ _ _ _ _ _ _)
   | (with_reducible exact head_Off.mono _ _ _ _ _ _ _ _ _ _ _ _ _ _ _ _ _ _ _)
   | (with_reducible exact head_load.mono _ _ _ _ _ _ _ _ _ _)
   | (with_reducible exact head_relro.mono _ _ _ _ _ _ _ _ _ _ _ _ _ _ _ _ _)
   | (with_reducible exact LeO.refl _)
   | (with_reducible exact LeO.none _)
   | (with_reducible refine LeO.ite ?_ ?_)
   | (with_reducible refine LeO.bind ?_ (fun _ => ?_))
   | exact ih0 _ _ _ _ _ _ _ _ _ _ _ _ _ _ _ _ _ _ _ _ _ _
   | exact ih1 _ _ _ _ _ _ _ _ _ _ _ _ _ _ _ _ _ _
   | exact head_Off.mono _ _ _ _ _ _ _ _ _ _ _ _ _ _ _ _ _ _ _
   | exact head_load.mono _ _ _ _ _ _ _ _ _ _
   | exact head_relro.mono _ _ _ _ _ _ _ _ _ _ _ _ _ _ _ _ _
   | exact LeO.none _
   | refine LeO.ite ?_ ?_
   | refine LeO.bind ?_ (fun _ => ?_)
  ·
   intro y0 y1 y2 y3 y4 y5 y6 y7 y8 y9 y10 y11 y12 y13 y14 y15 y16 y17
   unfold head_Parse.j1
   repeat' first
   | (with_reducible exact ih0 _ _ _ _ _ _ _ _ _ _ _ _ _ _ _ _ _ _ _ _ _ _)
   | (with_reducible exact ih1 _ _ _ _ _ _ _ _ _ _ _ _ _ _ _ _ _ _)
   | (with_reducible exact head_Off.mono _ _ _ _ _ _ _ _ _ _ _ _ _ _ _ _ _ _ _)
   | (with_reducible exact head_load.mono _ _ _ _ _ _ _ _ _ _)
   | (with_reducible exact head_relro.mono _ _ _ _ _ _ _ _ _ _ _ _ _ _ _ _ _)
   | (with_reducible exact LeO.refl _)
   | (with_reducible exact LeO.none _)
   | (with_reducible refine LeO.ite ?_ ?_)
   | (with_reducible refine LeO.bind ?_ (fun _ => ?_))
   | exact ih0 _ _ _ _ _ _ _ _ _ _ _ _ _ _ _ _ _ _ _ _ _ _
   | exact ih1 _ _ _ _ _ _ _ _ _ _ _ _ _ _ _ _ _ _
   | exact head_Off.mono _ _ _ _ _ _ _ _ _ _ _ _ _ _ _ _ _ _ _
   | exact head_load.mono _ _ _ _ _ _ _ _ _ _
   | exact head_relro.mono _ _ _ _ _ _ _ _ _ _ _ _ _ _ _ _ _
   | exact LeO.none _
   | refine LeO.ite ?_ ?_
   | refine LeO.bind ?_ (fun _ => ?_)
theorem head_Parse.mono : ∀ a0 k, LeO (head_Parse.f k a0) (head_Parse.f (k + 1) a0) := by
 intro a0 k
 obtain ⟨ih0, ih1⟩ := head_Parse.mono_l k
 unfold head_Parse.f
 repeat' first
   | (with_reducible exact ih0 _ _ _ _ _ _ _ _ _ _ _ _ _ _ _ _ _ _ _ _ _ _)
   | (with_reducible exact ih1 _ _ _ _ _ _ _ _ _ _ _ _ _ _ _ _ _ _)
   | (with_reducible exact head_Off.mono _ _ _ _ _ _ _ _ _ _ _ _ _ _ _ _ _ _ _)
   | (with_reducible exact head_load.mono _ _ _ _ _ _ _ _ _ _)
   | (with_reducible exact head_relro.mono _ _ _ _ _ _ _ _ _ _ _ _ _ _ _ _ _)
   | (with_reducible exact LeO.refl _)
   | (with_reducible exact LeO.none _)
   | (with_reducible refine LeO.ite ?_ ?_)
   | (with_reducible refine LeO.bind ?_ (fun _ => ?_))
   | exact ih0 _ _ _ _ _ _ _ _ _ _ _ _ _ _ _ _ _ _ _ _ _ _
   | exact ih1 _ _ _ _ _ _ _ _ _ _ _ _ _ _ _ _ _ _
   | exact head_Off.mono _ _ _ _ _ _ _ _ _ _ _ _ _ _ _ _ _ _ _
   | exact head_load.mono _ _ _ _ _ _ _ _ _ _
   | exact head_relro.mono _ _ _ _ _ _ _ _ _ _ _ _ _ _ _ _ _
   | exact LeO.none _
   | refine LeO.ite ?_ ?_
   | refine LeO.bind ?_ (fun _ => ?_)
set_option maxHeartbeats 1600000 in
set_option maxRecDepth 100000 in
theorem head_Parse.calls (k : Nat) (A0 : Option Addr) (c0 : Nat) (l0 : List Int) (r1 : Int) (r2 : List (S32)) (r3 : Int) (r4 : Int) (r5 : Int) (r6 : Int) (r7 : Int) (r8 : Int) (r9 : Int) (r10 : Int) (r11 : Int) (r12 : Int) (r13 : Int) (r14 : Int) (r15 : Int) (r16 : Int) (r17 : Int) (w : World) (hr0 : Kd.C (Kd.int .u8) w A0 l0.length l0) (hc0 : l0.length ≤ c0) (h : head_Parse.f k l0 = some (r1, r2, r3, r4, r5, r6, r7, r8, r9, r10, r11, r12, r13, r14, r15, r16, r17)) :
  Calls Try.prog 14 #[.slice A0 l0.length c0] w fun e w' => ∃ v1_ : Value, e = .returned (.tuple #[.agg #[.int .u16 r1, v1_, .int .u32 r3, .int .u32 r4, .int .u64 r5, .int .u64 r6, .int .u64 r7, .int .u64 r8, .int .u64 r9, .int .u32 r10, .int .u32 r11, .int .u64 r12, .int .u64 r13, .int .u64 r14, .int .u64 r15, .int .u64 r16], .int .i64 r17]) ∧ Kd.R k32 32 w' w.heap.size (fun _ => True) v1_ r2 ∧ Below w.heap.size w w' := by
  have hu37 := Try.underlying37
  have hu32 := Try.underlying32
  have HR0 := Aside0.mk hr0
  have HC0 := Aside0.mk hc0
  clear hr0 hc0
  unfold head_Parse.f at h
  obtain ⟨⟨t165, t166⟩, A2, H⟩ := Option.bind_eq_some_iff.mp h
  clear h
  replace A2 := Aside0.mk A2
  by_cases c3 : t166 = 0
  case neg =>
    rw [if_neg c3] at H
    simp only [Option.some.injEq, Prod.mk.injEq] at H
    obtain ⟨rfl, rfl, rfl, rfl, rfl, rfl, rfl, rfl, rfl, rfl, rfl, rfl, rfl, rfl, rfl, rfl, rfl⟩ := H
    have c3b1 : (t166 != 0) = true := bne_iff_ne.mpr c3
    clear c3
    go_enter Try.func14, Try.ntmps14
    go_wp2_with (first | ((with_reducible refine gate_dst (N := 2) rfl ?_); refine box_event ?hg (N := 2) ?hd (cs := #[.int .u16 0, .slice none 0 0, .int .u32 0, .int .u32 0, .int .u64 0, .int .u64 0, .int .u64 0, .int .u64 0, .int .u64 0, .int .u32 0, .int .u32 0, .int .u64 0, .int .u64 0, .int .u64 0, .int .u64 0, .int .u64 0]) (t := 37) ?hr ?_; (case hd => rfl); (case hg => rfl); (case hr => first | (go_simp; done) | (go_simp; rfl)); intro g1 hg1 w5 hb1 hB1; have B1 := Aside0.mk (show w5.heap[g1]? = some (.cells zeroH 37 (0, 0)) from hb1); have E1 := Aside0.mk (show w.heap.size ≤ g1 from Nat.le_of_eq hg1.symm); have HB := Aside0.mk hB1; clear hb1 hB1 hg1) | (go_at_call 11; (with_reducible refine (head_Table.calls _ _ l0 t165 t166 _ (Kd.C_below HR0.out HB.out) HC0.out A2.out).mono ?_); rintro _ w6 ⟨tv, rfl, ho0, hb⟩; obtain ⟨At, ct, ert⟩ := Kd.R_slice ho0; subst ert; have HT := Aside0.mk (Kd.R_lower ho0 (below_size HB.out)); replace B1 := Aside0.mk (blk_below B1.out hb); replace HB := Aside0.mk (below_step HB.out hb); clear ho0 hb) | ((with_reducible refine gate_store (t := 37) (p := 2) rfl ?_); refine store_letter g1 0 zeroH rfl rfl rfl rfl B1.out (show 0 + 16 ≤ 16 by decide) (by kernel_rfl) one_zeroH ?_; intro W2 hW; have B2 := Aside0.mk (show W2.heap[g1]? = some (.cells zeroH 37 (0, 0)) from hW ▸ put_zero ▸ blk_puts g1 37 zeroH.toList 0 w6 zeroH B1.out); have HB2 := Aside0.mk (show Below w.heap.size w W2 from hW ▸ below_puts g1 w E1.out _ _ _ HB.out); clear hW))
    refine bodyPost_ret (results_ct rfl _ _ g1 37 zeroH (0, 0) _ rfl B2.out Try.underlying37 rfl (by kernel_rfl)) rfl ?_
    exact ⟨_, rfl, Kd.R_nil _ _ _ _ _, HB2.out⟩
  rw [if_pos c3] at H
  subst c3
  obtain ⟨⟨t170, t171⟩, A4, H⟩ := Option.bind_eq_some_iff.mp H
  replace A4 := Aside0.mk A4
  have H' := Aside0.mk H
  clear H
  go_enter Try.func14, Try.ntmps14
  go_wp2_with (first | ((with_reducible refine gate_dst (N := 2) rfl ?_); refine box_event ?hg (N := 2) ?hd (cs := #[.int .u16 0, .slice none 0 0, .int .u32 0, .int .u32 0, .int .u64 0, .int .u64 0, .int .u64 0, .int .u64 0, .int .u64 0, .int .u32 0, .int .u32 0, .int .u64 0, .int .u64 0, .int .u64 0, .int .u64 0, .int .u64 0]) (t := 37) ?hr ?_; (case hd => rfl); (case hg => rfl); (case hr => first | (go_simp; done) | (go_simp; rfl)); intro g1 hg1 w5 hb1 hB1; have B1 := Aside0.mk (show w5.heap[g1]? = some (.cells zeroH 37 (0, 0)) from hb1); have E1 := Aside0.mk (show w.heap.size ≤ g1 from Nat.le_of_eq hg1.symm); have HB := Aside0.mk hB1; clear hb1 hB1 hg1) | (go_at_call 11; (with_reducible refine (head_Table.calls _ _ l0 t165 0 _ (Kd.C_below HR0.out HB.out) HC0.out A2.out).mono ?_); rintro _ w6 ⟨tv, rfl, ho0, hb⟩; obtain ⟨At, ct, ert⟩ := Kd.R_slice ho0; subst ert; have HT := Aside0.mk (Kd.R_lower ho0 (below_size HB.out)); replace B1 := Aside0.mk (blk_below B1.out hb); replace HB := Aside0.mk (below_step HB.out hb); clear ho0 hb) | ((with_reducible refine gate_dst (N := 6) rfl ?_); refine box_event ?hg (N := 6) ?hd (cs := #[.int .u16 0, .slice none 0 0, .int .u32 0, .int .u32 0, .int .u64 0, .int .u64 0, .int .u64 0, .int .u64 0, .int .u64 0, .int .u32 0, .int .u32 0, .int .u64 0, .int .u64 0, .int .u64 0, .int .u64 0, .int .u64 0]) (t := 37) ?hr ?_; (case hd => rfl); (case hg => rfl); (case hr => first | (go_simp; done) | (go_simp; rfl)); intro g2 hg2 w7 hb2 hB2; have P0 := Aside0.mk (PS.start hg2 B1.out E1.out HB.out HT.out hb2 hB2); clear hg2 hb2 hB2) | ((with_reducible refine gate_store (t := 37) (p := 6) rfl ?_); refine store_letter g2 0 zeroH rfl rfl rfl rfl P0.out.b2 (show 0 + 16 ≤ 16 by decide) (by kernel_rfl) one_zeroH ?_; intro W8 hW; have P1 := Aside0.mk (P0.out.put2 0 zeroH.toList put_zero hW); clear hW) | (go_at_call 36; (with_reducible refine (head_first.calls _ _ l0 t170 t171 _ (Kd.C_below HR0.out P1.out.bel) HC0.out A4.out).mono ?_); rintro _ W9 ⟨rfl, ⟨nd, hW⟩⟩; have P2 := Aside0.mk (show PS w W9 g1 g2 zeroH zeroH (.slice At t165.length ct) (.slice none 0 0) t165 [] from hW ▸ P1.out.below (pw_below_drewN (Below.refl _ _) nd)); clear hW; obtain ⟨hc9, hf9⟩ := P2.out.cell2 0 (.int .u16 0) rfl))
  clear hc9 hf9
  go_loopg [7, 8, 31] k (fun kq v7 v8 v31 w' => ∃ (x7 x8 i : Int) (hv : Value) (ld : List S32) (d e : S32), v7 = .int .i64 x7 ∧ v8 = .int .i64 x8 ∧ v31 = .int .i64 i ∧ Aside0 (head_Parse.l0 kq l0 x7 x8 t165 (t165.length : Int) i t170 ld d.f0 d.f1 d.f2 d.f3 d.f4 d.f5 d.f6 e.f0 e.f1 e.f2 e.f3 e.f4 e.f5 e.f6 = some (r1, r2, r3, r4, r5, r6, r7, r8, r9, r10, r11, r12, r13, r14, r15, r16, r17)) ∧ Aside0 (kq ≤ k) ∧ Aside0 (PS w w' g1 g2 zeroH (cellsH t170 hv d e) (.slice At t165.length ct) hv t165 ld))
  case atStart => exact ⟨0, 0, 0, .slice none 0 0, [], ⟨0, 0, 0, 0, 0, 0, 0⟩, ⟨0, 0, 0, 0, 0, 0, 0⟩, rfl, rfl, rfl, H', ⟨Nat.le_refl _⟩, ⟨P2.out.put2 0 [.int .u16 t170] (put_m _) rfl⟩⟩
  case round =>
    clear H'
    obtain ⟨x7, x8, i, hv, ld, d, e, rfl, rfl, rfl, HA, HK1, Q0⟩ := hrel
    cases gk with
    | zero => exact absurd HA.out (by simp [head_Parse.l0])
    | succ k1 =>
    have H := HA.out
    clear HA
    simp only [head_Parse.l0] at H
    obtain ⟨Ah, ch, eh⟩ := Kd.R_slice Q0.out.rl
    subst eh
    by_cases c11 : i < (t165.length : Int)
    case pos =>
      rw [if_pos c11] at H
      have c11b0 : decide (i < (t165.length : Int)) = true := decide_eq_true c11
      by_cases c12 : 0 ≤ i
      case neg => rw [if_neg c12] at H; cases H
      rw [if_pos c12, if_pos c11] at H
      have c12b0 : decide (0 ≤ i) = true := decide_eq_true c12
      obtain ⟨ad, ead, hx0, hx1, hx2, hx3, hx4, hx5, hx6⟩ := at_T32 (Kd.R_reads' Q0.out.rt).2.2 i c12 c11
      cases ead
      obtain ⟨p, hp⟩ : ∃ p, rd_T32 t165 i = p := ⟨_, rfl⟩
      rw [hp] at hx0 hx1 hx2 hx3 hx4 hx5 hx6 H
      clear hp
      replace c12 := eq_true c12
      replace c11 := eq_true c11
      by_cases c14 : p.f0 = 1
      case pos =>
        rw [if_pos c14] at H
        have c14b0 : (p.f0 == 1) = true := beq_iff_eq.mpr c14
        clear c14
        obtain ⟨t174, A15, H⟩ := Option.bind_eq_some_iff.mp H
        replace A15 := Aside0.mk A15
        cases t174 with
        | true =>
          rw [if_pos rfl] at H
          by_cases c17 : ld.length < 2932031007402
          case neg => rw [if_neg c17] at H; cases H
          rw [if_pos c17] at H
          have LM := Aside0.mk c17
          have H' := Aside0.mk H
          clear c17 H
          go_wp2_with (first | ((with_reducible refine gate_dst (N := 10) rfl ?_); refine box_event ?hg (N := 10) ?hd (cs := #[.int .u32 0, .int .u32 0, .int .u64 0, .int .u64 0, .int .u64 0, .int .u64 0, .int .u64 0]) (t := 32) ?hr ?_; (case hd => rfl); (case hg => rfl); (case hr => first | (go_simp; done) | (go_simp; rfl)); intro g3 hg3 w1 hb3 hB3; have G3 := Aside0.mk hg3; have N3 := Aside0.mk hb3; have S3 := Aside0.mk hB3; clear hg3 hb3 hB3) | ((with_reducible refine gate_store (t := 32) (p := 10) rfl ?_); refine store_letter g3 0 (cellsP p) rfl rfl rfl rfl N3.out (show 0 + 7 ≤ 7 by decide) (by kernel_rfl) (one_cellsP p) ?_; intro W2 hW; have S4 := Aside0.mk (show Below wr.heap.size wr W2 from hW ▸ below_puts g3 wr (Nat.le_of_eq G3.out.symm) _ _ _ S3.out); have N4 := Aside0.mk (show W2.heap[g3]? = some (.cells (cellsP p) 32 (0, 0)) from hW ▸ put_p p ▸ blk_puts g3 32 (cellsP p).toList 0 w1 (cellsP ⟨0, 0, 0, 0, 0, 0, 0⟩) N3.out); have Q1 := Aside0.mk (Q0.out.below S4.out); have hc3 : W2.cell? ⟨g3, 0, none⟩ = some (.int .u32 p.f0) := (blk_cell N4.out 0).trans rfl; obtain ⟨hch, hfh⟩ := Q1.out.cell2 1 (.slice Ah ld.length ch) rfl; clear hW) | ((with_reducible refine gate_dst (N := 39) rfl ?_); refine load_block rfl rfl rfl N4.out Try.underlying32 rfl (by kernel_rfl) ?_) | (go_at_call 44; refine (head_load.calls k1 p.f0 p.f1 p.f2 p.f3 p.f4 p.f5 p.f6 _ _ ld _ true _ (Kd.R_reads' Q1.out.rl).2.2 (Kd.R_reads' Q1.out.rl).2.1 A15.out).mono ?_; rintro _ W3 ⟨rfl, hb⟩; have Q2 := Aside0.mk (Q1.out.below hb); have N5 := Aside0.mk (blk_below N4.out hb); have S5 := Aside0.mk hb; clear hb; obtain ⟨hck, hfk⟩ := Q2.out.cell2 1 (.slice Ah ld.length ch) rfl) | ((with_reducible refine gate_dst (N := 50) rfl ?_); refine load_block rfl rfl rfl (show W3.heap[g3]? = some (.cells #[.int .u32 p.f0, .int .u32 p.f1, .int .u64 p.f2, .int .u64 p.f3, .int .u64 p.f4, .int .u64 p.f5, .int .u64 p.f6] 32 (0, 0)) from N5.out) Try.underlying32 rfl (by kernel_rfl) ?_) | ((with_reducible refine gate_builtin (b := .append) (xs := #[.tmp 49, .tmp 51]) rfl ?_); at_builtin; refine Kd.R_append k32 (w0 := w) w.heap.size rfl (.tmp 49) (.tmp 51) 23 32 (.agg #[.int .u32 0, .int .u32 0, .int .u64 0, .int .u64 0, .int .u64 0, .int .u64 0, .int .u64 0]) 48 rfl Try.underlying23 info32 rfl (by decide) (by omega) (.slice Ah ld.length ch) ld p [.int .u32 p.f0, .int .u32 p.f1, .int .u64 p.f2, .int .u64 p.f3, .int .u64 p.f4, .int .u64 p.f5, .int .u64 p.f6] (fun k => some k ≠ (Value.slice (some ad) t165.length ct).ownBlock) (fun _ => False) rfl (by show Value.slice (some ⟨W3.heap.size, 0, none⟩) 1 1 = _; rfl) (k32_mkM _ _ _ p) (fun _ hk => hk.elim) Q2.out.fresh Q2.out.rl Q2.out.bel Q2.out.bel.size (by have := LM.out; omega) ?_; intro v1 w9 ho1 hb1 hg1 hat1; obtain ⟨Av, cv, erv⟩ := Kd.R_slice ho1; subst erv; have Q3 := Aside0.mk (Q2.out.grown ho1 hb1 hg1 hat1); clear ho1 hb1 hg1 hat1; obtain ⟨hc9, hf9⟩ := Q3.out.cell2 1 (.slice Ah ld.length ch) rfl))
          go_roundg k1
          case measure => have := HK1.out; omega
          case rel => exact ⟨x7, x8, wrap64 (i + 1), .slice Av (ld ++ [p]).length cv, ld ++ [p], d, e, rfl, rfl, rfl, H', ⟨by have := HK1.out; omega⟩, ⟨Q3.out.put2 1 [.slice Av (ld ++ [p]).length cv] (put_v _ _ _ _ _) (by rw [List.length_append, List.length_singleton]; rfl)⟩⟩
        | false =>
          rw [if_neg (by decide)] at H
          simp only [Option.some.injEq, Prod.mk.injEq] at H
          obtain ⟨rfl, rfl, rfl, rfl, rfl, rfl, rfl, rfl, rfl, rfl, rfl, rfl, rfl, rfl, rfl, rfl, rfl⟩ := H
          go_wp2_with (first | ((with_reducible refine gate_dst (N := 10) rfl ?_); refine box_event ?hg (N := 10) ?hd (cs := #[.int .u32 0, .int .u32 0, .int .u64 0, .int .u64 0, .int .u64 0, .int .u64 0, .int .u64 0]) (t := 32) ?hr ?_; (case hd => rfl); (case hg => rfl); (case hr => first | (go_simp; done) | (go_simp; rfl)); intro g3 hg3 w1 hb3 hB3; have G3 := Aside0.mk hg3; have N3 := Aside0.mk hb3; have S3 := Aside0.mk hB3; clear hg3 hb3 hB3) | ((with_reducible refine gate_store (t := 32) (p := 10) rfl ?_); refine store_letter g3 0 (cellsP p) rfl rfl rfl rfl N3.out (show 0 + 7 ≤ 7 by decide) (by kernel_rfl) (one_cellsP p) ?_; intro W2 hW; have S4 := Aside0.mk (show Below wr.heap.size wr W2 from hW ▸ below_puts g3 wr (Nat.le_of_eq G3.out.symm) _ _ _ S3.out); have N4 := Aside0.mk (show W2.heap[g3]? = some (.cells (cellsP p) 32 (0, 0)) from hW ▸ put_p p ▸ blk_puts g3 32 (cellsP p).toList 0 w1 (cellsP ⟨0, 0, 0, 0, 0, 0, 0⟩) N3.out); have Q1 := Aside0.mk (Q0.out.below S4.out); have hc3 : W2.cell? ⟨g3, 0, none⟩ = some (.int .u32 p.f0) := (blk_cell N4.out 0).trans rfl; obtain ⟨hch, hfh⟩ := Q1.out.cell2 1 (.slice Ah ld.length ch) rfl; clear hW) | ((with_reducible refine gate_dst (N := 39) rfl ?_); refine load_block rfl rfl rfl N4.out Try.underlying32 rfl (by kernel_rfl) ?_) | (go_at_call 44; refine (head_load.calls k1 p.f0 p.f1 p.f2 p.f3 p.f4 p.f5 p.f6 _ _ ld _ false _ (Kd.R_reads' Q1.out.rl).2.2 (Kd.R_reads' Q1.out.rl).2.1 A15.out).mono ?_; rintro _ W3 ⟨rfl, hb⟩; have Q2 := Aside0.mk (Q1.out.below hb); have N5 := Aside0.mk (blk_below N4.out hb); have S5 := Aside0.mk hb; clear hb; obtain ⟨hck, hfk⟩ := Q2.out.cell2 1 (.slice Ah ld.length ch) rfl) | ((with_reducible refine gate_store (t := 37) (p := 2) rfl ?_); refine store_letter g1 0 zeroH rfl rfl rfl rfl Q2.out.b1 (show 0 + 16 ≤ 16 by decide) (by kernel_rfl) one_zeroH ?_; intro W4 hW; have Q3 := Aside0.mk (Q2.out.put1 0 zeroH.toList put_zero hW); clear hW))
          refine bodyPost_ret (results_ct rfl _ _ g1 37 zeroH (0, 0) _ rfl Q3.out.b1 Try.underlying37 rfl (by kernel_rfl)) rfl ?_
          exact ⟨_, rfl, Kd.R_nil _ _ _ _ _, Q3.out.bel⟩
      case neg =>
        rw [if_neg c14] at H
        have c14b0 : (p.f0 == 1) = false := beq_eq_false_iff_ne.mpr c14
        clear c14
        by_cases c40 : p.f0 = 2
        case pos =>
          rw [if_pos c40] at H
          have c40b0 : (p.f0 == 2) = true := beq_iff_eq.mpr c40
          clear c40
          have H' := Aside0.mk H
          clear H
          go_wp2_with (first | ((with_reducible refine gate_dst (N := 10) rfl ?_); refine box_event ?hg (N := 10) ?hd (cs := #[.int .u32 0, .int .u32 0, .int .u64 0, .int .u64 0, .int .u64 0, .int .u64 0, .int .u64 0]) (t := 32) ?hr ?_; (case hd => rfl); (case hg => rfl); (case hr => first | (go_simp; done) | (go_simp; rfl)); intro g3 hg3 w1 hb3 hB3; have G3 := Aside0.mk hg3; have N3 := Aside0.mk hb3; have S3 := Aside0.mk hB3; clear hg3 hb3 hB3) | ((with_reducible refine gate_store (t := 32) (p := 10) rfl ?_); refine store_letter g3 0 (cellsP p) rfl rfl rfl rfl N3.out (show 0 + 7 ≤ 7 by decide) (by kernel_rfl) (one_cellsP p) ?_; intro W2 hW; have S4 := Aside0.mk (show Below wr.heap.size wr W2 from hW ▸ below_puts g3 wr (Nat.le_of_eq G3.out.symm) _ _ _ S3.out); have N4 := Aside0.mk (show W2.heap[g3]? = some (.cells (cellsP p) 32 (0, 0)) from hW ▸ put_p p ▸ blk_puts g3 32 (cellsP p).toList 0 w1 (cellsP ⟨0, 0, 0, 0, 0, 0, 0⟩) N3.out); have Q1 := Aside0.mk (Q0.out.below S4.out); have hc3 : W2.cell? ⟨g3, 0, none⟩ = some (.int .u32 p.f0) := (blk_cell N4.out 0).trans rfl; obtain ⟨hch, hfh⟩ := Q1.out.cell2 1 (.slice Ah ld.length ch) rfl; clear hW) | ((with_reducible refine gate_dst (N := 58) rfl ?_); refine load_block rfl rfl rfl N4.out Try.underlying32 rfl (by kernel_rfl) ?_) | ((with_reducible refine gate_store (t := 32) (p := 59) rfl ?_); refine store_letter g2 2 (cellsP p) rfl rfl rfl rfl Q1.out.b2 (show 2 + 7 ≤ 16 by decide) (by kernel_rfl) (one_cellsP p) ?_; intro W3 hW; have Q2 := Aside0.mk (show PS w W3 g1 g2 zeroH (cellsH t170 (.slice Ah ld.length ch) p e) _ _ t165 ld from Q1.out.put2 2 (cellsP p).toList (put_d _ _ _ _ _) hW); clear hW))
          go_roundg k1
          case measure => have := HK1.out; omega
          case rel => exact ⟨wrap64 (x7 + 1), x8, wrap64 (i + 1), .slice Ah ld.length ch, ld, p, e, rfl, rfl, rfl, H', ⟨by have := HK1.out; omega⟩, Q2⟩
        case neg =>
        rw [if_neg c40] at H
        have c40b0 : (p.f0 == 2) = false := beq_eq_false_iff_ne.mpr c40
        clear c40
        by_cases c41 : p.f0 = 1685382482
        case pos =>
          rw [if_pos c41] at H
          have c41b0 : (p.f0 == 1685382482) = true := beq_iff_eq.mpr c41
          clear c41
          have H' := Aside0.mk H
          clear H
          go_wp2_with (first | ((with_reducible refine gate_dst (N := 10) rfl ?_); refine box_event ?hg (N := 10) ?hd (cs := #[.int .u32 0, .int .u32 0, .int .u64 0, .int .u64 0, .int .u64 0, .int .u64 0, .int .u64 0]) (t := 32) ?hr ?_; (case hd => rfl); (case hg => rfl); (case hr => first | (go_simp; done) | (go_simp; rfl)); intro g3 hg3 w1 hb3 hB3; have G3 := Aside0.mk hg3; have N3 := Aside0.mk hb3; have S3 := Aside0.mk hB3; clear hg3 hb3 hB3) | ((with_reducible refine gate_store (t := 32) (p := 10) rfl ?_); refine store_letter g3 0 (cellsP p) rfl rfl rfl rfl N3.out (show 0 + 7 ≤ 7 by decide) (by kernel_rfl) (one_cellsP p) ?_; intro W2 hW; have S4 := Aside0.mk (show Below wr.heap.size wr W2 from hW ▸ below_puts g3 wr (Nat.le_of_eq G3.out.symm) _ _ _ S3.out); have N4 := Aside0.mk (show W2.heap[g3]? = some (.cells (cellsP p) 32 (0, 0)) from hW ▸ put_p p ▸ blk_puts g3 32 (cellsP p).toList 0 w1 (cellsP ⟨0, 0, 0, 0, 0, 0, 0⟩) N3.out); have Q1 := Aside0.mk (Q0.out.below S4.out); have hc3 : W2.cell? ⟨g3, 0, none⟩ = some (.int .u32 p.f0) := (blk_cell N4.out 0).trans rfl; obtain ⟨hch, hfh⟩ := Q1.out.cell2 1 (.slice Ah ld.length ch) rfl; clear hW) | ((with_reducible refine gate_dst (N := 64) rfl ?_); refine load_block rfl rfl rfl N4.out Try.underlying32 rfl (by kernel_rfl) ?_) | ((with_reducible refine gate_store (t := 32) (p := 65) rfl ?_); refine store_letter g2 9 (cellsP p) rfl rfl rfl rfl Q1.out.b2 (show 9 + 7 ≤ 16 by decide) (by kernel_rfl) (one_cellsP p) ?_; intro W3 hW; have Q2 := Aside0.mk (show PS w W3 g1 g2 zeroH (cellsH t170 (.slice Ah ld.length ch) d p) _ _ t165 ld from Q1.out.put2 9 (cellsP p).toList (put_e _ _ _ _ _) hW); clear hW))
          go_roundg k1
          case measure => have := HK1.out; omega
          case rel => exact ⟨x7, wrap64 (x8 + 1), wrap64 (i + 1), .slice Ah ld.length ch, ld, d, p, rfl, rfl, rfl, H', ⟨by have := HK1.out; omega⟩, Q2⟩
        case neg =>
          rw [if_neg c41] at H
          have c41b0 : (p.f0 == 1685382482) = false := beq_eq_false_iff_ne.mpr c41
          clear c41
          have H' := Aside0.mk H
          clear H
          go_wp2_with (first | ((with_reducible refine gate_dst (N := 10) rfl ?_); refine box_event ?hg (N := 10) ?hd (cs := #[.int .u32 0, .int .u32 0, .int .u64 0, .int .u64 0, .int .u64 0, .int .u64 0, .int .u64 0]) (t := 32) ?hr ?_; (case hd => rfl); (case hg => rfl); (case hr => first | (go_simp; done) | (go_simp; rfl)); intro g3 hg3 w1 hb3 hB3; have G3 := Aside0.mk hg3; have N3 := Aside0.mk hb3; have S3 := Aside0.mk hB3; clear hg3 hb3 hB3) | ((with_reducible refine gate_store (t := 32) (p := 10) rfl ?_); refine store_letter g3 0 (cellsP p) rfl rfl rfl rfl N3.out (show 0 + 7 ≤ 7 by decide) (by kernel_rfl) (one_cellsP p) ?_; intro W2 hW; have S4 := Aside0.mk (show Below wr.heap.size wr W2 from hW ▸ below_puts g3 wr (Nat.le_of_eq G3.out.symm) _ _ _ S3.out); have N4 := Aside0.mk (show W2.heap[g3]? = some (.cells (cellsP p) 32 (0, 0)) from hW ▸ put_p p ▸ blk_puts g3 32 (cellsP p).toList 0 w1 (cellsP ⟨0, 0, 0, 0, 0, 0, 0⟩) N3.out); have Q1 := Aside0.mk (Q0.out.below S4.out); have hc3 : W2.cell? ⟨g3, 0, none⟩ = some (.int .u32 p.f0) := (blk_cell N4.out 0).trans rfl; obtain ⟨hch, hfh⟩ := Q1.out.cell2 1 (.slice Ah ld.length ch) rfl; clear hW))
          go_roundg k1
          case measure => have := HK1.out; omega
          case rel => exact ⟨x7, x8, wrap64 (i + 1), .slice Ah ld.length ch, ld, d, e, rfl, rfl, rfl, H', ⟨by have := HK1.out; omega⟩, Q1⟩
    case neg =>
      rw [if_neg c11] at H
      have c11b0 : decide (i < (t165.length : Int)) = false := decide_eq_false c11
      clear c11
      obtain ⟨hk1, hl1⟩ := Q0.out.cell2 1 (.slice Ah ld.length ch) rfl
      obtain ⟨hk5, hl5⟩ := Q0.out.cell2 5 (.int .u64 d.f3) rfl
      obtain ⟨hk6, hl6⟩ := Q0.out.cell2 6 (.int .u64 d.f4) rfl
      by_cases c58 : (ld.length : Int) = 0
      case pos =>
        rw [if_pos c58] at H
        have c58b0 : ((ld.length : Int) == 0) = true := beq_iff_eq.mpr c58
        clear c58
        simp only [Option.some.injEq, Prod.mk.injEq] at H
        obtain ⟨rfl, rfl, rfl, rfl, rfl, rfl, rfl, rfl, rfl, rfl, rfl, rfl, rfl, rfl, rfl, rfl, rfl⟩ := H
        go_wp2_with (first | ((with_reducible refine gate_store (t := 37) (p := 2) rfl ?_); refine store_letter g1 0 zeroH rfl rfl rfl rfl Q0.out.b1 (show 0 + 16 ≤ 16 by decide) (by kernel_rfl) one_zeroH ?_; intro W4 hW; have Q3 := Aside0.mk (Q0.out.put1 0 zeroH.toList put_zero hW); clear hW))
        refine bodyPost_ret (results_ct rfl _ _ g1 37 zeroH (0, 0) _ rfl Q3.out.b1 Try.underlying37 rfl (by kernel_rfl)) rfl ?_
        exact ⟨_, rfl, Kd.R_nil _ _ _ _ _, Q3.out.bel⟩
      rw [if_neg c58] at H
      have c58b0 : ((ld.length : Int) == 0) = false := beq_eq_false_iff_ne.mpr c58
      clear c58
      obtain ⟨⟨t178, t179⟩, A63, H⟩ := Option.bind_eq_some_iff.mp H
      replace A63 := Aside0.mk A63
      have HC64 := Aside0.mk H
      clear H
      go_upto_region 25 with (first | ((with_reducible refine gate_dst (N := 73) rfl ?_); refine load_block rfl rfl rfl Q0.out.b2 Try.underlying37 rfl (by kernel_rfl) ?_) | (go_at_call 43; refine (head_Off.calls k1 t170 _ _ ld d.f0 d.f1 d.f2 d.f3 d.f4 d.f5 d.f6 e.f0 e.f1 e.f2 e.f3 e.f4 e.f5 e.f6 d.f3 d.f4 t178 t179 _ (Kd.R_reads' Q0.out.rl).2.2 (Kd.R_reads' Q0.out.rl).2.1 A63.out).mono ?_; rintro _ W3 ⟨rfl, hb⟩; have Q1 := Aside0.mk (Q0.out.below hb); clear hb hk1 hl1 hk5 hl5 hk6 hl6; obtain ⟨hk1, hl1⟩ := Q1.out.cell2 1 (.slice Ah ld.length ch) rfl; obtain ⟨hk5, hl5⟩ := Q1.out.cell2 5 (.int .u64 d.f3) rfl; obtain ⟨hk6, hl6⟩ := Q1.out.cell2 6 (.int .u64 d.f4) rfl))
      go_cut [101] (fun v101 wc => ∃ (kq : Nat) (x101 : Bool), v101 = .bool x101 ∧ Aside0 (head_Parse.j1 kq x8 x101 t170 ld d.f0 d.f1 d.f2 d.f3 d.f4 d.f5 d.f6 e.f0 e.f1 e.f2 e.f3 e.f4 e.f5 e.f6 = some (r1, r2, r3, r4, r5, r6, r7, r8, r9, r10, r11, r12, r13, r14, r15, r16, r17)) ∧ Aside0 (kq ≤ k1) ∧ Aside0 (PS w wc g1 g2 zeroH (cellsH t170 (.slice Ah ld.length ch) d e) (.slice At t165.length ct) (.slice Ah ld.length ch) t165 ld))
      case first =>
        have H := HC64.out
        clear HC64
        by_cases c69 : x7 = 1
        case pos =>
          rw [if_pos c69] at H
          have c69b1 : (x7 != 1) = false := bne_eq_false_iff_eq.mpr c69
          clear c69
          cases t179 with
          | true =>
            rw [if_pos rfl] at H
            by_cases c71 : d.f4 = 0
            case pos =>
              rw [if_pos c71] at H
              have c71b0 : (d.f4 == 0) = true := beq_iff_eq.mpr c71
              clear c71
              have H' := Aside0.mk H
              clear H
              go_wp2
              go_meet
              case rel => exact ⟨_, true, (by first | rfl | (simp; done) | (simp [*]; done)), H', ⟨by first | omega | exact Nat.le_refl _⟩, Q1⟩
            case neg =>
              rw [if_neg c71] at H
              have c71b0 : (d.f4 == 0) = false := beq_eq_false_iff_ne.mpr c71
              clear c71
              have H' := Aside0.mk H
              clear H
              go_wp2
              go_meet
              case rel => exact ⟨_, ((Int.tmod d.f3 8) != 0), (by first | rfl | (simp; done) | (simp [*]; done)), H', ⟨by first | omega | exact Nat.le_refl _⟩, Q1⟩
          | false =>
            rw [if_neg (by decide)] at H
            have H' := Aside0.mk H
            clear H
            go_wp2
            go_meet
            case rel => exact ⟨_, true, (by first | rfl | (simp; done) | (simp [*]; done)), H', ⟨by first | omega | exact Nat.le_refl _⟩, Q1⟩
        case neg =>
          rw [if_neg c69] at H
          have c69b1 : (x7 != 1) = true := bne_iff_ne.mpr c69
          clear c69
          have H' := Aside0.mk H
          clear H
          go_wp2
          go_meet
          case rel => exact ⟨_, true, (by first | rfl | (simp; done) | (simp [*]; done)), H', ⟨by first | omega | exact Nat.le_refl _⟩, Q1⟩
      case rest =>
        clear HC64 Q0 Q1 hk1 hl1 hk5 hl5 hk6 hl6
        obtain ⟨kq, x101, rfl, HA, HJ, QR⟩ := hcut
        cases kq with
        | zero => exact absurd HA.out (by simp [head_Parse.j1])
        | succ kj =>
        have H := HA.out
        clear HA
        simp only [head_Parse.j1] at H
        cases x101 with
        | true =>
          rw [if_pos rfl] at H
          simp only [Option.some.injEq, Prod.mk.injEq] at H
          obtain ⟨rfl, rfl, rfl, rfl, rfl, rfl, rfl, rfl, rfl, rfl, rfl, rfl, rfl, rfl, rfl, rfl, rfl⟩ := H
          go_wp2_with (first | ((with_reducible refine gate_store (t := 37) (p := 2) rfl ?_); refine store_letter g1 0 zeroH rfl rfl rfl rfl QR.out.b1 (show 0 + 16 ≤ 16 by decide) (by kernel_rfl) one_zeroH ?_; intro W4 hW; have Q3 := Aside0.mk (QR.out.put1 0 zeroH.toList put_zero hW); clear hW))
          refine bodyPost_ret (results_ct rfl _ _ g1 37 zeroH (0, 0) _ rfl Q3.out.b1 Try.underlying37 rfl (by kernel_rfl)) rfl ?_
          exact ⟨_, rfl, Kd.R_nil _ _ _ _ _, Q3.out.bel⟩
        | false =>
        rw [if_neg (by decide)] at H
        by_cases c80 : x8 > 1
        case pos =>
          rw [if_pos c80] at H
          have c80b0 : decide (1 < x8) = true := decide_eq_true c80
          clear c80
          simp only [Option.some.injEq, Prod.mk.injEq] at H
          obtain ⟨rfl, rfl, rfl, rfl, rfl, rfl, rfl, rfl, rfl, rfl, rfl, rfl, rfl, rfl, rfl, rfl, rfl⟩ := H
          go_wp2_with (first | ((with_reducible refine gate_store (t := 37) (p := 2) rfl ?_); refine store_letter g1 0 zeroH rfl rfl rfl rfl QR.out.b1 (show 0 + 16 ≤ 16 by decide) (by kernel_rfl) one_zeroH ?_; intro W4 hW; have Q3 := Aside0.mk (QR.out.put1 0 zeroH.toList put_zero hW); clear hW))
          refine bodyPost_ret (results_ct rfl _ _ g1 37 zeroH (0, 0) _ rfl Q3.out.b1 Try.underlying37 rfl (by kernel_rfl)) rfl ?_
          exact ⟨_, rfl, Kd.R_nil _ _ _ _ _, Q3.out.bel⟩
        case neg =>
        rw [if_neg c80] at H
        have c80b0 : decide (1 < x8) = false := decide_eq_false c80
        clear c80
        by_cases c82 : x8 = 1
        case neg =>
          rw [if_neg c82] at H
          have c82b0 : (x8 == 1) = false := beq_eq_false_iff_ne.mpr c82
          clear c82
          simp only [Option.some.injEq, Prod.mk.injEq] at H
          obtain ⟨rfl, rfl, rfl, rfl, rfl, rfl, rfl, rfl, rfl, rfl, rfl, rfl, rfl, rfl, rfl, rfl, rfl⟩ := H
          go_wp2_with (first | ((with_reducible refine gate_dst (N := 115) rfl ?_); refine load_block rfl rfl rfl QR.out.b2 Try.underlying37 rfl (by kernel_rfl) ?_) | ((with_reducible refine gate_store (t := 37) (p := 2) rfl ?_); refine store_letter g1 0 (cellsH t170 (.slice Ah ld.length ch) d e) rfl rfl rfl rfl QR.out.b1 (show 0 + 16 ≤ 16 by decide) (by kernel_rfl) (one_cellsH _ _ _ _ _ _) ?_; intro W4 hW; have Q3 := Aside0.mk (QR.out.put1 0 (cellsH t170 (.slice Ah ld.length ch) d e).toList (put_all _ _ _ _) hW); clear hW))
          refine bodyPost_ret (results_ct rfl _ _ g1 37 (cellsH t170 (.slice Ah ld.length ch) d e) (0, 0) _ rfl Q3.out.b1 Try.underlying37 rfl (by kernel_rfl)) rfl ?_
          exact ⟨_, rfl, Kd.R_mono Q3.out.rl (fun _ _ => trivial), Q3.out.bel⟩
        case pos =>
          rw [if_pos c82] at H
          have c82b0 : (x8 == 1) = true := beq_iff_eq.mpr c82
          clear c82
          obtain ⟨t180, A83, H⟩ := Option.bind_eq_some_iff.mp H
          replace A83 := Aside0.mk A83
          have hz0 := (QR.out.cell2 0 (.int .u16 t170) rfl).1
          have hz1 := (QR.out.cell2 1 (.slice Ah ld.length ch) rfl).1
          have hz2 := (QR.out.cell2 2 (.int .u32 d.f0) rfl).1
          have hz3 := (QR.out.cell2 3 (.int .u32 d.f1) rfl).1
          have hz4 := (QR.out.cell2 4 (.int .u64 d.f2) rfl).1
          have hz5 := (QR.out.cell2 5 (.int .u64 d.f3) rfl).1
          have hz6 := (QR.out.cell2 6 (.int .u64 d.f4) rfl).1
          have hz7 := (QR.out.cell2 7 (.int .u64 d.f5) rfl).1
          have hz8 := (QR.out.cell2 8 (.int .u64 d.f6) rfl).1
          have hz9 := (QR.out.cell2 9 (.int .u32 e.f0) rfl).1
          have hz10 := (QR.out.cell2 10 (.int .u32 e.f1) rfl).1
          have hz11 := (QR.out.cell2 11 (.int .u64 e.f2) rfl).1
          have hz12 := (QR.out.cell2 12 (.int .u64 e.f3) rfl).1
          have hz13 := (QR.out.cell2 13 (.int .u64 e.f4) rfl).1
          have hz14 := (QR.out.cell2 14 (.int .u64 e.f5) rfl).1
          have hz15 := (QR.out.cell2 15 (.int .u64 e.f6) rfl).1
          cases t180 with
          | true =>
            rw [if_pos rfl] at H
            simp only [Option.some.injEq, Prod.mk.injEq] at H
            obtain ⟨rfl, rfl, rfl, rfl, rfl, rfl, rfl, rfl, rfl, rfl, rfl, rfl, rfl, rfl, rfl, rfl, rfl⟩ := H
            go_wp2_with (first | (go_at_call 45; refine (head_relro.calls kj t170 _ _ ld d.f0 d.f1 d.f2 d.f3 d.f4 d.f5 d.f6 e.f0 e.f1 e.f2 e.f3 e.f4 e.f5 e.f6 true _ (Kd.R_reads' QR.out.rl).2.2 (Kd.R_reads' QR.out.rl).2.1 A83.out).mono ?_; rintro _ W3 ⟨rfl, hb⟩; have Q1 := Aside0.mk (QR.out.below hb); clear hb) | ((with_reducible refine gate_dst (N := 115) rfl ?_); refine load_block rfl rfl rfl Q1.out.b2 Try.underlying37 rfl (by kernel_rfl) ?_) | ((with_reducible refine gate_store (t := 37) (p := 2) rfl ?_); refine store_letter g1 0 (cellsH t170 (.slice Ah ld.length ch) d e) rfl rfl rfl rfl Q1.out.b1 (show 0 + 16 ≤ 16 by decide) (by kernel_rfl) (one_cellsH _ _ _ _ _ _) ?_; intro W4 hW; have Q3 := Aside0.mk (Q1.out.put1 0 (cellsH t170 (.slice Ah ld.length ch) d e).toList (put_all _ _ _ _) hW); clear hW))
            refine bodyPost_ret (results_ct rfl _ _ g1 37 (cellsH t170 (.slice Ah ld.length ch) d e) (0, 0) _ rfl Q3.out.b1 Try.underlying37 rfl (by kernel_rfl)) rfl ?_
            exact ⟨_, rfl, Kd.R_mono Q3.out.rl (fun _ _ => trivial), Q3.out.bel⟩
          | false =>
            rw [if_neg (by decide)] at H
            simp only [Option.some.injEq, Prod.mk.injEq] at H
            obtain ⟨rfl, rfl, rfl, rfl, rfl, rfl, rfl, rfl, rfl, rfl, rfl, rfl, rfl, rfl, rfl, rfl, rfl⟩ := H
            go_wp2_with (first | (go_at_call 45; refine (head_relro.calls kj t170 _ _ ld d.f0 d.f1 d.f2 d.f3 d.f4 d.f5 d.f6 e.f0 e.f1 e.f2 e.f3 e.f4 e.f5 e.f6 false _ (Kd.R_reads' QR.out.rl).2.2 (Kd.R_reads' QR.out.rl).2.1 A83.out).mono ?_; rintro _ W3 ⟨rfl, hb⟩; have Q1 := Aside0.mk (QR.out.below hb); clear hb) | ((with_reducible refine gate_store (t := 37) (p := 2) rfl ?_); refine store_letter g1 0 zeroH rfl rfl rfl rfl Q1.out.b1 (show 0 + 16 ≤ 16 by decide) (by kernel_rfl) one_zeroH ?_; intro W4 hW; have Q3 := Aside0.mk (Q1.out.put1 0 zeroH.toList put_zero hW); clear hW))
            refine bodyPost_ret (results_ct rfl _ _ g1 37 zeroH (0, 0) _ rfl Q3.out.b1 Try.underlying37 rfl (by kernel_rfl)) rfl ?_
            exact ⟨_, rfl, Kd.R_nil _ _ _ _ _, Q3.out.bel⟩

end Go.Proofs.Ytlegpojjbeglhaa.P
