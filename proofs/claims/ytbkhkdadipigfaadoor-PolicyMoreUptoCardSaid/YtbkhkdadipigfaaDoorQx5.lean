/- For functions of this seat: a plain Lean function each, and the proof that the call answers so; written by a program of this session out of the translation. No condition beyond those that stand in each theorem. -/
import Derived.Test.YtbkhkdadipigfaaDoorQx0
namespace Go.Proofs.YtbkhkdadipigfaaDoor.Q
open Go.RowKit Go.Proofs.YtbkhkdadipigfaaDoorW.PrintWords Go.Proofs.YtbkhkdadipigfaaDoorW.PrintLast Go.Proofs.YtbkhkdadipigfaaDoorW.PrintMore
attribute [local go_sem] max2_int min2_int max_two min_two max_three min_three max_four min_four   -- for this text's walks alone
set_option linter.unusedVariables false
set_option linter.unusedSimpArgs false

/-! ### messuagelaw19_Great: function 62 -/
mutual
def messuagelaw19_Great.l0 : Nat → List (S41) → Int → Option (Bool)
  | 0, _, _ => none
  | k + 1, x0, x3 => if x3 < (x0.length : Int) then (if 0 ≤ x3 then (if (((rd_T41 x0 x3).f3).length : Int) > 60 then (messuagelaw19_Great.j1 k x0 x3 true) else (if (((rd_T41 x0 x3).f4).length : Int) > 60 then (messuagelaw19_Great.j1 k x0 x3 true) else (if (((rd_T41 x0 x3).f5).length : Int) > 60 then (messuagelaw19_Great.j1 k x0 x3 true) else (messuagelaw19_Great.j1 k x0 x3 (decide ((((rd_T41 x0 x3).f6).length : Int) > 40)))))) else (none)) else (some false)
def messuagelaw19_Great.j1 : Nat → List (S41) → Int → Bool → Option (Bool)
  | 0, _, _, _ => none
  | k + 1, x0, x3, x47 => if x47 = true then (some true) else (messuagelaw19_Great.l1 k x0 x3 0)
def messuagelaw19_Great.l1 : Nat → List (S41) → Int → Int → Option (Bool)
  | 0, _, _, _ => none
  | k + 1, x0, x3, x4 => if 0 ≤ x3 then (if x3 < (x0.length : Int) then (if x4 < (((rd_T41 x0 x3).f6).length : Int) then (if 0 ≤ x4 then (if (((rd_T48 ((rd_T41 x0 x3).f6) x4).f1).length : Int) > 60 then (some true) else (messuagelaw19_Great.l1 k x0 x3 (wrap64 (x4 + 1)))) else (none)) else (messuagelaw19_Great.l0 k x0 (wrap64 (x3 + 1)))) else (none)) else (none)
end
def messuagelaw19_Great.f (k : Nat) (l0 : List (S41)) : Option (Bool) := if (l0.length : Int) > 40 then (some true) else (messuagelaw19_Great.l0 k l0 0)
theorem messuagelaw19_Great.mono_l : ∀ k, (∀ y0 y1, LeO (messuagelaw19_Great.l0 k y0 y1) (messuagelaw19_Great.l0 (k + 1) y0 y1)) ∧ (∀ y0 y1 y2, LeO (messuagelaw19_Great.j1 k y0 y1 y2) (messuagelaw19_Great.j1 (k + 1) y0 y1 y2)) ∧ (∀ y0 y1 y2, LeO (messuagelaw19_Great.l1 k y0 y1 y2) (messuagelaw19_Great.l1 (k + 1) y0 y1 y2))
  | 0 => ⟨fun _ _ r h => by simp [messuagelaw19_Great.l0] at h, fun _ _ _ r h => by simp [messuagelaw19_Great.j1] at h, fun _ _ _ r h => by simp [messuagelaw19_Great.l1] at h⟩
  | k + 1 => by
    obtain ⟨ih0, ih1, ih2⟩ := messuagelaw19_Great.mono_l k
    refine ⟨?_, ?_, ?_⟩
    · intro y0 y1
      unfold messuagelaw19_Great.l0
      repeat' first
      | (with_reducible exact ih0 _ _)
      | (with_reducible exact ih1 _ _ _)
      | (with_reducible exact ih2 _ _ _)
      | (with_reducible exact LeO.refl _)
      | (with_reducible exact LeO.none _)
      | (with_reducible refine LeO.ite ?_ ?_)
      | (with_reducible refine LeO.bind ?_ (fun _ => ?_))
      | exact ih0 _ _
      | exact ih1 _ _ _
      | exact ih2 _ _ _
      | exact LeO.none _
      | refine LeO.ite ?_ ?_
      | refine LeO.bind ?_ (fun _ => ?_)
    · intro y0 y1 y2
      unfold messuagelaw19_Great.j1
      repeat' first
      | (with_reducible exact ih0 _ _)
      | (with_reducible exact ih1 _ _ _)
      | (with_reducible exact ih2 _ _ _)
      | (with_reducible exact LeO.refl _)
      | (with_reducible exact LeO.none _)
      | (with_reducible refine LeO.ite ?_ ?_)
      | (with_reducible refine LeO.bind ?_ (fun _ => ?_))
      | exact ih0 _ _
      | exact ih1 _ _ _
      | exact ih2 _ _ _
      | exact LeO.none _
      | refine LeO.ite ?_ ?_
      | refine LeO.bind ?_ (fun _ => ?_)
    · intro y0 y1 y2
      unfold messuagelaw19_Great.l1
      repeat' first
      | (with_reducible exact ih0 _ _)
      | (with_reducible exact ih1 _ _ _)
      | (with_reducible exact ih2 _ _ _)
      | (with_reducible exact LeO.refl _)
      | (with_reducible exact LeO.none _)
      | (with_reducible refine LeO.ite ?_ ?_)
      | (with_reducible refine LeO.bind ?_ (fun _ => ?_))
      | exact ih0 _ _
      | exact ih1 _ _ _
      | exact ih2 _ _ _
      | exact LeO.none _
      | refine LeO.ite ?_ ?_
      | refine LeO.bind ?_ (fun _ => ?_)
theorem messuagelaw19_Great.mono : ∀ a0 k, LeO (messuagelaw19_Great.f k a0) (messuagelaw19_Great.f (k + 1) a0) := by
  intro a0 k
  obtain ⟨ih0, ih1, ih2⟩ := messuagelaw19_Great.mono_l k
  unfold messuagelaw19_Great.f
  repeat' first
      | (with_reducible exact ih0 _ _)
      | (with_reducible exact ih1 _ _ _)
      | (with_reducible exact ih2 _ _ _)
      | (with_reducible exact LeO.refl _)
      | (with_reducible exact LeO.none _)
      | (with_reducible refine LeO.ite ?_ ?_)
      | (with_reducible refine LeO.bind ?_ (fun _ => ?_))
      | exact ih0 _ _
      | exact ih1 _ _ _
      | exact ih2 _ _ _
      | exact LeO.none _
      | refine LeO.ite ?_ ?_
      | refine LeO.bind ?_ (fun _ => ?_)
set_option maxHeartbeats 8000000 in
set_option maxRecDepth 100000 in
theorem messuagelaw19_Great.calls (k : Nat) (A0 : Option Addr) (c0 : Nat) (l0 : List (S41)) (r : Bool) (w : World) (hr0 : Kd.C k41 w A0 l0.length l0) (hc0 : l0.length ≤ c0) (h : messuagelaw19_Great.f k l0 = some r) :
    Calls Tryd.prog 62 #[.slice A0 l0.length c0] w fun e w' => e = .returned (.bool r) ∧ Drawn0 w w' := by
  have HR0 := Aside0.mk hr0
  have HC0 := Aside0.mk hc0
  clear hr0 hc0
  have H : (if (l0.length : Int) > 40 then (some true) else (messuagelaw19_Great.l0 k l0 0)) = some r := h
  clear h
  by_cases c2 : (l0.length : Int) > 40
  · rw [if_pos c2] at H
    have c2b0 : decide (40 < (l0.length : Int)) = true := decide_eq_true c2
    have c2b1 : decide (40 < l0.length) = true := decide_eq_true (by omega)
    clear c2
    obtain rfl := Option.some.inj H
    go_enter Tryd.func62, Tryd.ntmps62
    go_wp2
    go_ret
    exact ⟨by first | rfl | (simp; done) | (simp [*]; done), by repeat (first | exact Drawn0.refl _ | apply Drawn0.step)⟩
  · rw [if_neg c2] at H
    have c2b0 : decide (40 < (l0.length : Int)) = false := decide_eq_false c2
    have c2b1 : decide (40 < l0.length) = false := decide_eq_false (by omega)
    clear c2
    have H' := Aside0.mk H
    clear H
    go_enter Tryd.func62, Tryd.ntmps62
    go_wp2
    go_loopg [3] k (fun kq v3 w' => ∃ (x3_1 : Int), v3 = .int .i64 x3_1 ∧ Aside0 (messuagelaw19_Great.l0 kq l0 x3_1 = some r) ∧ Aside0 (kq ≤ k) ∧ Drawn0 w w')
    case atStart => exact ⟨(0), (by first | rfl | (simp; done) | (simp [*]; done)), H', ⟨Nat.le_refl _⟩, by repeat (first | exact Drawn0.refl _ | apply Drawn0.step)⟩
    case round =>
      clear H'
      try clear c2
      try clear c2b0
      try clear c2b1
      try clear p2
      obtain ⟨x3_1, rfl, HA, HK1, ⟨m1, rfl⟩⟩ := hrel
      cases gk with
      | zero => exact absurd HA.out (by simp [messuagelaw19_Great.l0])
      | succ k1 =>
        have H := HA.out
        clear HA
        simp only [messuagelaw19_Great.l0] at H
        by_cases c3 : x3_1 < (l0.length : Int)
        · rw [if_pos c3] at H
          have c3b0 : decide (x3_1 < (l0.length : Int)) = true := decide_eq_true c3
          clear c3
          have HC4 := Aside0.mk H
          clear H
          go_upto_region 6 with (fail)
          go_cut [47] (fun v47 wc => ∃ (kq : Nat) (x47_3 : Bool), v47 = .bool x47_3 ∧ Aside0 (messuagelaw19_Great.j1 kq l0 x3_1 x47_3 = some r) ∧ Aside0 (kq ≤ k1) ∧ Drawn0 w wc)
          case first =>
            have H := HC4.out
            clear HC4
            by_cases c5 : 0 ≤ x3_1
            · rw [if_pos c5] at H
              have c5b0 : decide (0 ≤ x3_1) = true := decide_eq_true c5
              clear c5
              (first | rw [c5b0] | (simp only [i64_w, i32_w]; rw [c5b0]) | skip)
              by_cases c6 : (((rd_T41 l0 x3_1).f3).length : Int) > 60
              · rw [if_pos c6] at H
                have c6b0 : decide (60 < (((rd_T41 l0 x3_1).f3).length : Int)) = true := decide_eq_true c6
                have c6b1 : decide (60 < ((rd_T41 l0 x3_1).f3).length) = true := decide_eq_true (by omega)
                clear c6
                have H' := Aside0.mk H
                clear H
                have p155 : 0 ≤ (x3_1 : Int) := of_decide_eq_true (by first | (with_reducible assumption) | assumption)
                have q155 : x3_1 < (l0.length : Int) := of_decide_eq_true (by first | (with_reducible assumption) | assumption)
                obtain ⟨ad155, A155_3, c155_3, A155_4, c155_4, A155_5, c155_5, A155_6, c155_6, e155, hx155_0, hx155_1, hx155_2, hx155_3, hx155_4, hx155_5, hx155_6, hl155_3, hi155_3, hl155_4, hi155_4, hl155_5, hi155_5, hl155_6, hi155_6⟩ := at_T41 HR0.out x3_1 p155 q155
                cases e155
                have HR155_3 := Aside0.mk hi155_3
                have HC155_3 := Aside0.mk hl155_3
                clear hi155_3 hl155_3
                have HR155_4 := Aside0.mk hi155_4
                have HC155_4 := Aside0.mk hl155_4
                clear hi155_4 hl155_4
                have HR155_5 := Aside0.mk hi155_5
                have HC155_5 := Aside0.mk hl155_5
                clear hi155_5 hl155_5
                have HR155_6 := Aside0.mk hi155_6
                have HC155_6 := Aside0.mk hl155_6
                clear hi155_6 hl155_6
                replace p155 := eq_true p155
                replace q155 := eq_true q155
                go_wp2
                go_meet
                case rel => exact ⟨_, (true), (by first | rfl | (simp; done) | (simp [*]; done)), H', ⟨by have := HK1.out; first | omega | exact Nat.le_refl _⟩, by repeat (first | exact Drawn0.refl _ | apply Drawn0.step)⟩
              · rw [if_neg c6] at H
                have c6b0 : decide (60 < (((rd_T41 l0 x3_1).f3).length : Int)) = false := decide_eq_false c6
                have c6b1 : decide (60 < ((rd_T41 l0 x3_1).f3).length) = false := decide_eq_false (by omega)
                clear c6
                by_cases c7 : (((rd_T41 l0 x3_1).f4).length : Int) > 60
                · rw [if_pos c7] at H
                  have c7b0 : decide (60 < (((rd_T41 l0 x3_1).f4).length : Int)) = true := decide_eq_true c7
                  have c7b1 : decide (60 < ((rd_T41 l0 x3_1).f4).length) = true := decide_eq_true (by omega)
                  clear c7
                  have H' := Aside0.mk H
                  clear H
                  have p155 : 0 ≤ (x3_1 : Int) := of_decide_eq_true (by first | (with_reducible assumption) | assumption)
                  have q155 : x3_1 < (l0.length : Int) := of_decide_eq_true (by first | (with_reducible assumption) | assumption)
                  obtain ⟨ad155, A155_3, c155_3, A155_4, c155_4, A155_5, c155_5, A155_6, c155_6, e155, hx155_0, hx155_1, hx155_2, hx155_3, hx155_4, hx155_5, hx155_6, hl155_3, hi155_3, hl155_4, hi155_4, hl155_5, hi155_5, hl155_6, hi155_6⟩ := at_T41 HR0.out x3_1 p155 q155
                  cases e155
                  have HR155_3 := Aside0.mk hi155_3
                  have HC155_3 := Aside0.mk hl155_3
                  clear hi155_3 hl155_3
                  have HR155_4 := Aside0.mk hi155_4
                  have HC155_4 := Aside0.mk hl155_4
                  clear hi155_4 hl155_4
                  have HR155_5 := Aside0.mk hi155_5
                  have HC155_5 := Aside0.mk hl155_5
                  clear hi155_5 hl155_5
                  have HR155_6 := Aside0.mk hi155_6
                  have HC155_6 := Aside0.mk hl155_6
                  clear hi155_6 hl155_6
                  replace p155 := eq_true p155
                  replace q155 := eq_true q155
                  have p156 : 0 ≤ (x3_1 : Int) := of_decide_eq_true (by first | (with_reducible assumption) | assumption)
                  have q156 : x3_1 < (l0.length : Int) := of_decide_eq_true (by first | (with_reducible assumption) | assumption)
                  obtain ⟨ad156, A156_3, c156_3, A156_4, c156_4, A156_5, c156_5, A156_6, c156_6, e156, hx156_0, hx156_1, hx156_2, hx156_3, hx156_4, hx156_5, hx156_6, hl156_3, hi156_3, hl156_4, hi156_4, hl156_5, hi156_5, hl156_6, hi156_6⟩ := at_T41 HR0.out x3_1 p156 q156
                  obtain rfl : ad155 = ad156 := (by injection e156)
                  have HR156_3 := Aside0.mk hi156_3
                  have HC156_3 := Aside0.mk hl156_3
                  clear hi156_3 hl156_3
                  have HR156_4 := Aside0.mk hi156_4
                  have HC156_4 := Aside0.mk hl156_4
                  clear hi156_4 hl156_4
                  have HR156_5 := Aside0.mk hi156_5
                  have HC156_5 := Aside0.mk hl156_5
                  clear hi156_5 hl156_5
                  have HR156_6 := Aside0.mk hi156_6
                  have HC156_6 := Aside0.mk hl156_6
                  clear hi156_6 hl156_6
                  replace p156 := eq_true p156
                  replace q156 := eq_true q156
                  have ea_ := Option.some.inj (hx155_3.symm.trans hx156_3)
                  injection ea_ with ea_ en_ ec_
                  subst ea_
                  subst ec_
                  clear en_
                  have ea_ := Option.some.inj (hx155_4.symm.trans hx156_4)
                  injection ea_ with ea_ en_ ec_
                  subst ea_
                  subst ec_
                  clear en_
                  have ea_ := Option.some.inj (hx155_5.symm.trans hx156_5)
                  injection ea_ with ea_ en_ ec_
                  subst ea_
                  subst ec_
                  clear en_
                  have ea_ := Option.some.inj (hx155_6.symm.trans hx156_6)
                  injection ea_ with ea_ en_ ec_
                  subst ea_
                  subst ec_
                  clear en_
                  go_wp2
                  go_meet
                  case rel => exact ⟨_, (true), (by first | rfl | (simp; done) | (simp [*]; done)), H', ⟨by have := HK1.out; first | omega | exact Nat.le_refl _⟩, by repeat (first | exact Drawn0.refl _ | apply Drawn0.step)⟩
                · rw [if_neg c7] at H
                  have c7b0 : decide (60 < (((rd_T41 l0 x3_1).f4).length : Int)) = false := decide_eq_false c7
                  have c7b1 : decide (60 < ((rd_T41 l0 x3_1).f4).length) = false := decide_eq_false (by omega)
                  clear c7
                  by_cases c8 : (((rd_T41 l0 x3_1).f5).length : Int) > 60
                  · rw [if_pos c8] at H
                    have c8b0 : decide (60 < (((rd_T41 l0 x3_1).f5).length : Int)) = true := decide_eq_true c8
                    have c8b1 : decide (60 < ((rd_T41 l0 x3_1).f5).length) = true := decide_eq_true (by omega)
                    clear c8
                    have H' := Aside0.mk H
                    clear H
                    have p155 : 0 ≤ (x3_1 : Int) := of_decide_eq_true (by first | (with_reducible assumption) | assumption)
                    have q155 : x3_1 < (l0.length : Int) := of_decide_eq_true (by first | (with_reducible assumption) | assumption)
                    obtain ⟨ad155, A155_3, c155_3, A155_4, c155_4, A155_5, c155_5, A155_6, c155_6, e155, hx155_0, hx155_1, hx155_2, hx155_3, hx155_4, hx155_5, hx155_6, hl155_3, hi155_3, hl155_4, hi155_4, hl155_5, hi155_5, hl155_6, hi155_6⟩ := at_T41 HR0.out x3_1 p155 q155
                    cases e155
                    have HR155_3 := Aside0.mk hi155_3
                    have HC155_3 := Aside0.mk hl155_3
                    clear hi155_3 hl155_3
                    have HR155_4 := Aside0.mk hi155_4
                    have HC155_4 := Aside0.mk hl155_4
                    clear hi155_4 hl155_4
                    have HR155_5 := Aside0.mk hi155_5
                    have HC155_5 := Aside0.mk hl155_5
                    clear hi155_5 hl155_5
                    have HR155_6 := Aside0.mk hi155_6
                    have HC155_6 := Aside0.mk hl155_6
                    clear hi155_6 hl155_6
                    replace p155 := eq_true p155
                    replace q155 := eq_true q155
                    have p156 : 0 ≤ (x3_1 : Int) := of_decide_eq_true (by first | (with_reducible assumption) | assumption)
                    have q156 : x3_1 < (l0.length : Int) := of_decide_eq_true (by first | (with_reducible assumption) | assumption)
                    obtain ⟨ad156, A156_3, c156_3, A156_4, c156_4, A156_5, c156_5, A156_6, c156_6, e156, hx156_0, hx156_1, hx156_2, hx156_3, hx156_4, hx156_5, hx156_6, hl156_3, hi156_3, hl156_4, hi156_4, hl156_5, hi156_5, hl156_6, hi156_6⟩ := at_T41 HR0.out x3_1 p156 q156
                    obtain rfl : ad155 = ad156 := (by injection e156)
                    have HR156_3 := Aside0.mk hi156_3
                    have HC156_3 := Aside0.mk hl156_3
                    clear hi156_3 hl156_3
                    have HR156_4 := Aside0.mk hi156_4
                    have HC156_4 := Aside0.mk hl156_4
                    clear hi156_4 hl156_4
                    have HR156_5 := Aside0.mk hi156_5
                    have HC156_5 := Aside0.mk hl156_5
                    clear hi156_5 hl156_5
                    have HR156_6 := Aside0.mk hi156_6
                    have HC156_6 := Aside0.mk hl156_6
                    clear hi156_6 hl156_6
                    replace p156 := eq_true p156
                    replace q156 := eq_true q156
                    have ea_ := Option.some.inj (hx155_3.symm.trans hx156_3)
                    injection ea_ with ea_ en_ ec_
                    subst ea_
                    subst ec_
                    clear en_
                    have ea_ := Option.some.inj (hx155_4.symm.trans hx156_4)
                    injection ea_ with ea_ en_ ec_
                    subst ea_
                    subst ec_
                    clear en_
                    have ea_ := Option.some.inj (hx155_5.symm.trans hx156_5)
                    injection ea_ with ea_ en_ ec_
                    subst ea_
                    subst ec_
                    clear en_
                    have ea_ := Option.some.inj (hx155_6.symm.trans hx156_6)
                    injection ea_ with ea_ en_ ec_
                    subst ea_
                    subst ec_
                    clear en_
                    have p157 : 0 ≤ (x3_1 : Int) := of_decide_eq_true (by first | (with_reducible assumption) | assumption)
                    have q157 : x3_1 < (l0.length : Int) := of_decide_eq_true (by first | (with_reducible assumption) | assumption)
                    obtain ⟨ad157, A157_3, c157_3, A157_4, c157_4, A157_5, c157_5, A157_6, c157_6, e157, hx157_0, hx157_1, hx157_2, hx157_3, hx157_4, hx157_5, hx157_6, hl157_3, hi157_3, hl157_4, hi157_4, hl157_5, hi157_5, hl157_6, hi157_6⟩ := at_T41 HR0.out x3_1 p157 q157
                    obtain rfl : ad155 = ad157 := (by injection e157)
                    have HR157_3 := Aside0.mk hi157_3
                    have HC157_3 := Aside0.mk hl157_3
                    clear hi157_3 hl157_3
                    have HR157_4 := Aside0.mk hi157_4
                    have HC157_4 := Aside0.mk hl157_4
                    clear hi157_4 hl157_4
                    have HR157_5 := Aside0.mk hi157_5
                    have HC157_5 := Aside0.mk hl157_5
                    clear hi157_5 hl157_5
                    have HR157_6 := Aside0.mk hi157_6
                    have HC157_6 := Aside0.mk hl157_6
                    clear hi157_6 hl157_6
                    replace p157 := eq_true p157
                    replace q157 := eq_true q157
                    have ea_ := Option.some.inj (hx155_3.symm.trans hx157_3)
                    injection ea_ with ea_ en_ ec_
                    subst ea_
                    subst ec_
                    clear en_
                    have ea_ := Option.some.inj (hx155_4.symm.trans hx157_4)
                    injection ea_ with ea_ en_ ec_
                    subst ea_
                    subst ec_
                    clear en_
                    have ea_ := Option.some.inj (hx155_5.symm.trans hx157_5)
                    injection ea_ with ea_ en_ ec_
                    subst ea_
                    subst ec_
                    clear en_
                    have ea_ := Option.some.inj (hx155_6.symm.trans hx157_6)
                    injection ea_ with ea_ en_ ec_
                    subst ea_
                    subst ec_
                    clear en_
                    go_wp2
                    go_meet
                    case rel => exact ⟨_, (true), (by first | rfl | (simp; done) | (simp [*]; done)), H', ⟨by have := HK1.out; first | omega | exact Nat.le_refl _⟩, by repeat (first | exact Drawn0.refl _ | apply Drawn0.step)⟩
                  · rw [if_neg c8] at H
                    have c8b0 : decide (60 < (((rd_T41 l0 x3_1).f5).length : Int)) = false := decide_eq_false c8
                    have c8b1 : decide (60 < ((rd_T41 l0 x3_1).f5).length) = false := decide_eq_false (by omega)
                    clear c8
                    have H' := Aside0.mk H
                    clear H
                    have p155 : 0 ≤ (x3_1 : Int) := of_decide_eq_true (by first | (with_reducible assumption) | assumption)
                    have q155 : x3_1 < (l0.length : Int) := of_decide_eq_true (by first | (with_reducible assumption) | assumption)
                    obtain ⟨ad155, A155_3, c155_3, A155_4, c155_4, A155_5, c155_5, A155_6, c155_6, e155, hx155_0, hx155_1, hx155_2, hx155_3, hx155_4, hx155_5, hx155_6, hl155_3, hi155_3, hl155_4, hi155_4, hl155_5, hi155_5, hl155_6, hi155_6⟩ := at_T41 HR0.out x3_1 p155 q155
                    cases e155
                    have HR155_3 := Aside0.mk hi155_3
                    have HC155_3 := Aside0.mk hl155_3
                    clear hi155_3 hl155_3
                    have HR155_4 := Aside0.mk hi155_4
                    have HC155_4 := Aside0.mk hl155_4
                    clear hi155_4 hl155_4
                    have HR155_5 := Aside0.mk hi155_5
                    have HC155_5 := Aside0.mk hl155_5
                    clear hi155_5 hl155_5
                    have HR155_6 := Aside0.mk hi155_6
                    have HC155_6 := Aside0.mk hl155_6
                    clear hi155_6 hl155_6
                    replace p155 := eq_true p155
                    replace q155 := eq_true q155
                    have p156 : 0 ≤ (x3_1 : Int) := of_decide_eq_true (by first | (with_reducible assumption) | assumption)
                    have q156 : x3_1 < (l0.length : Int) := of_decide_eq_true (by first | (with_reducible assumption) | assumption)
                    obtain ⟨ad156, A156_3, c156_3, A156_4, c156_4, A156_5, c156_5, A156_6, c156_6, e156, hx156_0, hx156_1, hx156_2, hx156_3, hx156_4, hx156_5, hx156_6, hl156_3, hi156_3, hl156_4, hi156_4, hl156_5, hi156_5, hl156_6, hi156_6⟩ := at_T41 HR0.out x3_1 p156 q156
                    obtain rfl : ad155 = ad156 := (by injection e156)
                    have HR156_3 := Aside0.mk hi156_3
                    have HC156_3 := Aside0.mk hl156_3
                    clear hi156_3 hl156_3
                    have HR156_4 := Aside0.mk hi156_4
                    have HC156_4 := Aside0.mk hl156_4
                    clear hi156_4 hl156_4
                    have HR156_5 := Aside0.mk hi156_5
                    have HC156_5 := Aside0.mk hl156_5
                    clear hi156_5 hl156_5
                    have HR156_6 := Aside0.mk hi156_6
                    have HC156_6 := Aside0.mk hl156_6
                    clear hi156_6 hl156_6
                    replace p156 := eq_true p156
                    replace q156 := eq_true q156
                    have ea_ := Option.some.inj (hx155_3.symm.trans hx156_3)
                    injection ea_ with ea_ en_ ec_
                    subst ea_
                    subst ec_
                    clear en_
                    have ea_ := Option.some.inj (hx155_4.symm.trans hx156_4)
                    injection ea_ with ea_ en_ ec_
                    subst ea_
                    subst ec_
                    clear en_
                    have ea_ := Option.some.inj (hx155_5.symm.trans hx156_5)
                    injection ea_ with ea_ en_ ec_
                    subst ea_
                    subst ec_
                    clear en_
                    have ea_ := Option.some.inj (hx155_6.symm.trans hx156_6)
                    injection ea_ with ea_ en_ ec_
                    subst ea_
                    subst ec_
                    clear en_
                    have p157 : 0 ≤ (x3_1 : Int) := of_decide_eq_true (by first | (with_reducible assumption) | assumption)
                    have q157 : x3_1 < (l0.length : Int) := of_decide_eq_true (by first | (with_reducible assumption) | assumption)
                    obtain ⟨ad157, A157_3, c157_3, A157_4, c157_4, A157_5, c157_5, A157_6, c157_6, e157, hx157_0, hx157_1, hx157_2, hx157_3, hx157_4, hx157_5, hx157_6, hl157_3, hi157_3, hl157_4, hi157_4, hl157_5, hi157_5, hl157_6, hi157_6⟩ := at_T41 HR0.out x3_1 p157 q157
                    obtain rfl : ad155 = ad157 := (by injection e157)
                    have HR157_3 := Aside0.mk hi157_3
                    have HC157_3 := Aside0.mk hl157_3
                    clear hi157_3 hl157_3
                    have HR157_4 := Aside0.mk hi157_4
                    have HC157_4 := Aside0.mk hl157_4
                    clear hi157_4 hl157_4
                    have HR157_5 := Aside0.mk hi157_5
                    have HC157_5 := Aside0.mk hl157_5
                    clear hi157_5 hl157_5
                    have HR157_6 := Aside0.mk hi157_6
                    have HC157_6 := Aside0.mk hl157_6
                    clear hi157_6 hl157_6
                    replace p157 := eq_true p157
                    replace q157 := eq_true q157
                    have ea_ := Option.some.inj (hx155_3.symm.trans hx157_3)
                    injection ea_ with ea_ en_ ec_
                    subst ea_
                    subst ec_
                    clear en_
                    have ea_ := Option.some.inj (hx155_4.symm.trans hx157_4)
                    injection ea_ with ea_ en_ ec_
                    subst ea_
                    subst ec_
                    clear en_
                    have ea_ := Option.some.inj (hx155_5.symm.trans hx157_5)
                    injection ea_ with ea_ en_ ec_
                    subst ea_
                    subst ec_
                    clear en_
                    have ea_ := Option.some.inj (hx155_6.symm.trans hx157_6)
                    injection ea_ with ea_ en_ ec_
                    subst ea_
                    subst ec_
                    clear en_
                    have p158 : 0 ≤ (x3_1 : Int) := of_decide_eq_true (by first | (with_reducible assumption) | assumption)
                    have q158 : x3_1 < (l0.length : Int) := of_decide_eq_true (by first | (with_reducible assumption) | assumption)
                    obtain ⟨ad158, A158_3, c158_3, A158_4, c158_4, A158_5, c158_5, A158_6, c158_6, e158, hx158_0, hx158_1, hx158_2, hx158_3, hx158_4, hx158_5, hx158_6, hl158_3, hi158_3, hl158_4, hi158_4, hl158_5, hi158_5, hl158_6, hi158_6⟩ := at_T41 HR0.out x3_1 p158 q158
                    obtain rfl : ad155 = ad158 := (by injection e158)
                    have HR158_3 := Aside0.mk hi158_3
                    have HC158_3 := Aside0.mk hl158_3
                    clear hi158_3 hl158_3
                    have HR158_4 := Aside0.mk hi158_4
                    have HC158_4 := Aside0.mk hl158_4
                    clear hi158_4 hl158_4
                    have HR158_5 := Aside0.mk hi158_5
                    have HC158_5 := Aside0.mk hl158_5
                    clear hi158_5 hl158_5
                    have HR158_6 := Aside0.mk hi158_6
                    have HC158_6 := Aside0.mk hl158_6
                    clear hi158_6 hl158_6
                    replace p158 := eq_true p158
                    replace q158 := eq_true q158
                    have ea_ := Option.some.inj (hx155_3.symm.trans hx158_3)
                    injection ea_ with ea_ en_ ec_
                    subst ea_
                    subst ec_
                    clear en_
                    have ea_ := Option.some.inj (hx155_4.symm.trans hx158_4)
                    injection ea_ with ea_ en_ ec_
                    subst ea_
                    subst ec_
                    clear en_
                    have ea_ := Option.some.inj (hx155_5.symm.trans hx158_5)
                    injection ea_ with ea_ en_ ec_
                    subst ea_
                    subst ec_
                    clear en_
                    have ea_ := Option.some.inj (hx155_6.symm.trans hx158_6)
                    injection ea_ with ea_ en_ ec_
                    subst ea_
                    subst ec_
                    clear en_
                    go_wp2
                    go_meet
                    case rel => exact ⟨_, (decide ((((rd_T41 l0 x3_1).f6).length : Int) > 40)), (by first | rfl | (simp; done) | (simp [*]; done)), H', ⟨by have := HK1.out; first | omega | exact Nat.le_refl _⟩, by repeat (first | exact Drawn0.refl _ | apply Drawn0.step)⟩
            · rw [if_neg c5] at H
              exact absurd H (by simp)
          case rest =>
            clear HC4
            try clear c1
            try clear p1
            try clear q1
            try clear hx1
            try clear c2
            try clear c2b0
            try clear c2b1
            try clear p2
            try clear c3
            try clear c3b0
            try clear c5
            try clear c5b0
            try clear c6
            try clear c6b0
            try clear c6b1
            try clear c7
            try clear c7b0
            try clear c7b1
            try clear c8
            try clear c8b0
            try clear c8b1
            try clear hx155_0
            try clear hx155_1
            try clear hx155_2
            try clear hx155_3
            try clear hx155_4
            try clear hx155_5
            try clear hx155_6
            try clear hx156_0
            try clear hx156_1
            try clear hx156_2
            try clear hx156_3
            try clear hx156_4
            try clear hx156_5
            try clear hx156_6
            try clear hx157_0
            try clear hx157_1
            try clear hx157_2
            try clear hx157_3
            try clear hx157_4
            try clear hx157_5
            try clear hx157_6
            try clear hx158_0
            try clear hx158_1
            try clear hx158_2
            try clear hx158_3
            try clear hx158_4
            try clear hx158_5
            try clear hx158_6
            try clear p155
            try clear p156
            try clear p157
            try clear p158
            try clear p2
            try clear q155
            try clear q156
            try clear q157
            try clear q158
            obtain ⟨kq, x47_3, rfl, HA, HJ3, ⟨mc3, rfl⟩⟩ := hcut
            cases kq with
            | zero => exact absurd HA.out (by simp [messuagelaw19_Great.j1])
            | succ kj3 =>
              have H := HA.out
              clear HA
              simp only [messuagelaw19_Great.j1] at H
              by_cases c9 : x47_3 = true
              · subst c9
                have H1 : (some true) = some r := by rw [if_pos rfl] at H; exact H
                clear H
                have H := H1
                clear H1
                obtain rfl := Option.some.inj H
                go_wp2
                go_ret
                exact ⟨by first | rfl | (simp; done) | (simp [*]; done), by repeat (first | exact Drawn0.refl _ | apply Drawn0.step)⟩
              · replace c9 := Bool.eq_false_iff.mpr c9
                subst c9
                have H1 : (messuagelaw19_Great.l1 kj3 l0 x3_1 0) = some r := by rw [if_neg (show ¬ (false = true) by decide)] at H; exact H
                clear H
                have H := H1
                clear H1
                have H' := Aside0.mk H
                clear H
                go_wp2
                go_loopg [4] kj3 (fun kq v4 w' => ∃ (x4_3 : Int), v4 = .int .i64 x4_3 ∧ Aside0 (messuagelaw19_Great.l1 kq l0 x3_1 x4_3 = some r) ∧ Aside0 (kq ≤ kj3) ∧ Drawn0 w w')
                case atStart => exact ⟨(0), (by first | rfl | (simp; done) | (simp [*]; done)), H', ⟨Nat.le_refl _⟩, by repeat (first | exact Drawn0.refl _ | apply Drawn0.step)⟩
                case round =>
                  clear H'
                  try clear c1
                  try clear p1
                  try clear q1
                  try clear hx1
                  try clear c2
                  try clear c2b0
                  try clear c2b1
                  try clear p2
                  try clear c3
                  try clear c3b0
                  try clear c5
                  try clear c5b0
                  try clear c6
                  try clear c6b0
                  try clear c6b1
                  try clear c7
                  try clear c7b0
                  try clear c7b1
                  try clear c8
                  try clear c8b0
                  try clear c8b1
                  try clear c9
                  try clear hx155_0
                  try clear hx155_1
                  try clear hx155_2
                  try clear hx155_3
                  try clear hx155_4
                  try clear hx155_5
                  try clear hx155_6
                  try clear hx156_0
                  try clear hx156_1
                  try clear hx156_2
                  try clear hx156_3
                  try clear hx156_4
                  try clear hx156_5
                  try clear hx156_6
                  try clear hx157_0
                  try clear hx157_1
                  try clear hx157_2
                  try clear hx157_3
                  try clear hx157_4
                  try clear hx157_5
                  try clear hx157_6
                  try clear hx158_0
                  try clear hx158_1
                  try clear hx158_2
                  try clear hx158_3
                  try clear hx158_4
                  try clear hx158_5
                  try clear hx158_6
                  try clear p1
                  try clear p155
                  try clear p156
                  try clear p157
                  try clear p158
                  try clear p2
                  try clear q1
                  try clear q155
                  try clear q156
                  try clear q157
                  try clear q158
                  obtain ⟨x4_3, rfl, HA, HK3, ⟨m3, rfl⟩⟩ := hrel
                  cases gk with
                  | zero => exact absurd HA.out (by simp [messuagelaw19_Great.l1])
                  | succ k3 =>
                    have H := HA.out
                    clear HA
                    simp only [messuagelaw19_Great.l1] at H
                    by_cases c10 : 0 ≤ x3_1
                    · rw [if_pos c10] at H
                      have c10b0 : decide (0 ≤ x3_1) = true := decide_eq_true c10
                      clear c10
                      by_cases c11 : x3_1 < (l0.length : Int)
                      · rw [if_pos c11] at H
                        have c11b0 : decide (x3_1 < (l0.length : Int)) = true := decide_eq_true c11
                        clear c11
                        by_cases c12 : x4_3 < (((rd_T41 l0 x3_1).f6).length : Int)
                        · rw [if_pos c12] at H
                          have c12b0 : decide (x4_3 < (((rd_T41 l0 x3_1).f6).length : Int)) = true := decide_eq_true c12
                          clear c12
                          by_cases c13 : 0 ≤ x4_3
                          · rw [if_pos c13] at H
                            have c13b0 : decide (0 ≤ x4_3) = true := decide_eq_true c13
                            clear c13
                            by_cases c14 : (((rd_T48 ((rd_T41 l0 x3_1).f6) x4_3).f1).length : Int) > 60
                            · rw [if_pos c14] at H
                              have c14b0 : decide (60 < (((rd_T48 ((rd_T41 l0 x3_1).f6) x4_3).f1).length : Int)) = true := decide_eq_true c14
                              have c14b1 : decide (60 < ((rd_T48 ((rd_T41 l0 x3_1).f6) x4_3).f1).length) = true := decide_eq_true (by omega)
                              clear c14
                              obtain rfl := Option.some.inj H
                              have p159 : 0 ≤ (x3_1 : Int) := of_decide_eq_true (by first | (with_reducible assumption) | assumption)
                              have q159 : x3_1 < (l0.length : Int) := of_decide_eq_true (by first | (with_reducible assumption) | assumption)
                              obtain ⟨ad159, A159_3, c159_3, A159_4, c159_4, A159_5, c159_5, A159_6, c159_6, e159, hx159_0, hx159_1, hx159_2, hx159_3, hx159_4, hx159_5, hx159_6, hl159_3, hi159_3, hl159_4, hi159_4, hl159_5, hi159_5, hl159_6, hi159_6⟩ := at_T41 HR0.out x3_1 p159 q159
                              cases e159
                              have HR159_3 := Aside0.mk hi159_3
                              have HC159_3 := Aside0.mk hl159_3
                              clear hi159_3 hl159_3
                              have HR159_4 := Aside0.mk hi159_4
                              have HC159_4 := Aside0.mk hl159_4
                              clear hi159_4 hl159_4
                              have HR159_5 := Aside0.mk hi159_5
                              have HC159_5 := Aside0.mk hl159_5
                              clear hi159_5 hl159_5
                              have HR159_6 := Aside0.mk hi159_6
                              have HC159_6 := Aside0.mk hl159_6
                              clear hi159_6 hl159_6
                              replace p159 := eq_true p159
                              replace q159 := eq_true q159
                              have p160 : 0 ≤ (x3_1 : Int) := of_decide_eq_true (by first | (with_reducible assumption) | assumption)
                              have q160 : x3_1 < (l0.length : Int) := of_decide_eq_true (by first | (with_reducible assumption) | assumption)
                              obtain ⟨ad160, A160_3, c160_3, A160_4, c160_4, A160_5, c160_5, A160_6, c160_6, e160, hx160_0, hx160_1, hx160_2, hx160_3, hx160_4, hx160_5, hx160_6, hl160_3, hi160_3, hl160_4, hi160_4, hl160_5, hi160_5, hl160_6, hi160_6⟩ := at_T41 HR0.out x3_1 p160 q160
                              obtain rfl : ad159 = ad160 := (by injection e160)
                              have HR160_3 := Aside0.mk hi160_3
                              have HC160_3 := Aside0.mk hl160_3
                              clear hi160_3 hl160_3
                              have HR160_4 := Aside0.mk hi160_4
                              have HC160_4 := Aside0.mk hl160_4
                              clear hi160_4 hl160_4
                              have HR160_5 := Aside0.mk hi160_5
                              have HC160_5 := Aside0.mk hl160_5
                              clear hi160_5 hl160_5
                              have HR160_6 := Aside0.mk hi160_6
                              have HC160_6 := Aside0.mk hl160_6
                              clear hi160_6 hl160_6
                              replace p160 := eq_true p160
                              replace q160 := eq_true q160
                              have ea_ := Option.some.inj (hx159_3.symm.trans hx160_3)
                              injection ea_ with ea_ en_ ec_
                              subst ea_
                              subst ec_
                              clear en_
                              have ea_ := Option.some.inj (hx159_4.symm.trans hx160_4)
                              injection ea_ with ea_ en_ ec_
                              subst ea_
                              subst ec_
                              clear en_
                              have ea_ := Option.some.inj (hx159_5.symm.trans hx160_5)
                              injection ea_ with ea_ en_ ec_
                              subst ea_
                              subst ec_
                              clear en_
                              have ea_ := Option.some.inj (hx159_6.symm.trans hx160_6)
                              injection ea_ with ea_ en_ ec_
                              subst ea_
                              subst ec_
                              clear en_
                              have p161 : 0 ≤ (x4_3 : Int) := of_decide_eq_true (by first | (with_reducible assumption) | assumption)
                              have q161 : x4_3 < (((rd_T41 l0 x3_1).f6).length : Int) := of_decide_eq_true (by first | (with_reducible assumption) | assumption)
                              obtain ⟨ad161, A161_1, c161_1, e161, hx161_0, hx161_1, hx161_2, hl161_1, hi161_1⟩ := at_T48 HR160_6.out x4_3 p161 q161
                              cases e161
                              have HR161_1 := Aside0.mk hi161_1
                              have HC161_1 := Aside0.mk hl161_1
                              clear hi161_1 hl161_1
                              replace p161 := eq_true p161
                              replace q161 := eq_true q161
                              go_wp2
                              go_ret
                              exact ⟨by first | rfl | (simp; done) | (simp [*]; done), by repeat (first | exact Drawn0.refl _ | apply Drawn0.step)⟩
                            · rw [if_neg c14] at H
                              have c14b0 : decide (60 < (((rd_T48 ((rd_T41 l0 x3_1).f6) x4_3).f1).length : Int)) = false := decide_eq_false c14
                              have c14b1 : decide (60 < ((rd_T48 ((rd_T41 l0 x3_1).f6) x4_3).f1).length) = false := decide_eq_false (by omega)
                              clear c14
                              have H' := Aside0.mk H
                              clear H
                              have p159 : 0 ≤ (x3_1 : Int) := of_decide_eq_true (by first | (with_reducible assumption) | assumption)
                              have q159 : x3_1 < (l0.length : Int) := of_decide_eq_true (by first | (with_reducible assumption) | assumption)
                              obtain ⟨ad159, A159_3, c159_3, A159_4, c159_4, A159_5, c159_5, A159_6, c159_6, e159, hx159_0, hx159_1, hx159_2, hx159_3, hx159_4, hx159_5, hx159_6, hl159_3, hi159_3, hl159_4, hi159_4, hl159_5, hi159_5, hl159_6, hi159_6⟩ := at_T41 HR0.out x3_1 p159 q159
                              cases e159
                              have HR159_3 := Aside0.mk hi159_3
                              have HC159_3 := Aside0.mk hl159_3
                              clear hi159_3 hl159_3
                              have HR159_4 := Aside0.mk hi159_4
                              have HC159_4 := Aside0.mk hl159_4
                              clear hi159_4 hl159_4
                              have HR159_5 := Aside0.mk hi159_5
                              have HC159_5 := Aside0.mk hl159_5
                              clear hi159_5 hl159_5
                              have HR159_6 := Aside0.mk hi159_6
                              have HC159_6 := Aside0.mk hl159_6
                              clear hi159_6 hl159_6
                              replace p159 := eq_true p159
                              replace q159 := eq_true q159
                              have p160 : 0 ≤ (x3_1 : Int) := of_decide_eq_true (by first | (with_reducible assumption) | assumption)
                              have q160 : x3_1 < (l0.length : Int) := of_decide_eq_true (by first | (with_reducible assumption) | assumption)
                              obtain ⟨ad160, A160_3, c160_3, A160_4, c160_4, A160_5, c160_5, A160_6, c160_6, e160, hx160_0, hx160_1, hx160_2, hx160_3, hx160_4, hx160_5, hx160_6, hl160_3, hi160_3, hl160_4, hi160_4, hl160_5, hi160_5, hl160_6, hi160_6⟩ := at_T41 HR0.out x3_1 p160 q160
                              obtain rfl : ad159 = ad160 := (by injection e160)
                              have HR160_3 := Aside0.mk hi160_3
                              have HC160_3 := Aside0.mk hl160_3
                              clear hi160_3 hl160_3
                              have HR160_4 := Aside0.mk hi160_4
                              have HC160_4 := Aside0.mk hl160_4
                              clear hi160_4 hl160_4
                              have HR160_5 := Aside0.mk hi160_5
                              have HC160_5 := Aside0.mk hl160_5
                              clear hi160_5 hl160_5
                              have HR160_6 := Aside0.mk hi160_6
                              have HC160_6 := Aside0.mk hl160_6
                              clear hi160_6 hl160_6
                              replace p160 := eq_true p160
                              replace q160 := eq_true q160
                              have ea_ := Option.some.inj (hx159_3.symm.trans hx160_3)
                              injection ea_ with ea_ en_ ec_
                              subst ea_
                              subst ec_
                              clear en_
                              have ea_ := Option.some.inj (hx159_4.symm.trans hx160_4)
                              injection ea_ with ea_ en_ ec_
                              subst ea_
                              subst ec_
                              clear en_
                              have ea_ := Option.some.inj (hx159_5.symm.trans hx160_5)
                              injection ea_ with ea_ en_ ec_
                              subst ea_
                              subst ec_
                              clear en_
                              have ea_ := Option.some.inj (hx159_6.symm.trans hx160_6)
                              injection ea_ with ea_ en_ ec_
                              subst ea_
                              subst ec_
                              clear en_
                              have p161 : 0 ≤ (x4_3 : Int) := of_decide_eq_true (by first | (with_reducible assumption) | assumption)
                              have q161 : x4_3 < (((rd_T41 l0 x3_1).f6).length : Int) := of_decide_eq_true (by first | (with_reducible assumption) | assumption)
                              obtain ⟨ad161, A161_1, c161_1, e161, hx161_0, hx161_1, hx161_2, hl161_1, hi161_1⟩ := at_T48 HR160_6.out x4_3 p161 q161
                              cases e161
                              have HR161_1 := Aside0.mk hi161_1
                              have HC161_1 := Aside0.mk hl161_1
                              clear hi161_1 hl161_1
                              replace p161 := eq_true p161
                              replace q161 := eq_true q161
                              go_wp2
                              go_roundg k3
                              case measure => have := HK1.out; have := HJ3.out; have := HK3.out; omega
                              case rel => exact ⟨(wrap64 (x4_3 + 1)), (by first | rfl | (simp; done) | (simp [*]; done)), H', ⟨by have := HK1.out; have := HJ3.out; have := HK3.out; omega⟩, by repeat (first | exact Drawn0.refl _ | apply Drawn0.step)⟩
                          · rw [if_neg c13] at H
                            exact absurd H (by simp)
                        · rw [if_neg c12] at H
                          have c12b0 : decide (x4_3 < (((rd_T41 l0 x3_1).f6).length : Int)) = false := decide_eq_false c12
                          clear c12
                          have H' := Aside0.mk H
                          clear H
                          have p159 : 0 ≤ (x3_1 : Int) := of_decide_eq_true (by first | (with_reducible assumption) | assumption)
                          have q159 : x3_1 < (l0.length : Int) := of_decide_eq_true (by first | (with_reducible assumption) | assumption)
                          obtain ⟨ad159, A159_3, c159_3, A159_4, c159_4, A159_5, c159_5, A159_6, c159_6, e159, hx159_0, hx159_1, hx159_2, hx159_3, hx159_4, hx159_5, hx159_6, hl159_3, hi159_3, hl159_4, hi159_4, hl159_5, hi159_5, hl159_6, hi159_6⟩ := at_T41 HR0.out x3_1 p159 q159
                          cases e159
                          have HR159_3 := Aside0.mk hi159_3
                          have HC159_3 := Aside0.mk hl159_3
                          clear hi159_3 hl159_3
                          have HR159_4 := Aside0.mk hi159_4
                          have HC159_4 := Aside0.mk hl159_4
                          clear hi159_4 hl159_4
                          have HR159_5 := Aside0.mk hi159_5
                          have HC159_5 := Aside0.mk hl159_5
                          clear hi159_5 hl159_5
                          have HR159_6 := Aside0.mk hi159_6
                          have HC159_6 := Aside0.mk hl159_6
                          clear hi159_6 hl159_6
                          replace p159 := eq_true p159
                          replace q159 := eq_true q159
                          go_wp2
                          go_roundg k3
                          case measure => have := HK1.out; have := HJ3.out; have := HK3.out; omega
                          case rel => exact ⟨(wrap64 (x3_1 + 1)), (by first | rfl | (simp; done) | (simp [*]; done)), H', ⟨by have := HK1.out; have := HJ3.out; have := HK3.out; omega⟩, by repeat (first | exact Drawn0.refl _ | apply Drawn0.step)⟩
                      · rw [if_neg c11] at H
                        exact absurd H (by simp)
                    · rw [if_neg c10] at H
                      exact absurd H (by simp)
        · rw [if_neg c3] at H
          have c3b0 : decide (x3_1 < (l0.length : Int)) = false := decide_eq_false c3
          clear c3
          obtain rfl := Option.some.inj H
          go_wp2
          go_ret
          exact ⟨by first | rfl | (simp; done) | (simp [*]; done), by repeat (first | exact Drawn0.refl _ | apply Drawn0.step)⟩

end Go.Proofs.YtbkhkdadipigfaaDoor.Q
