/- For functions of this seat: a plain Lean function each, and the proof that the call answers so; written by a program of this session out of the translation. No condition beyond those that stand in each theorem. -/
import Derived.Test.YtbkhkdadipigfaaDoorPx0
import Derived.Test.YtbkhkdadipigfaaDoorPx4
import Derived.Test.YtbkhkdadipigfaaDoorPx6
import Derived.Test.YtbkhkdadipigfaaDoorPx7
namespace Go.Proofs.YtbkhkdadipigfaaDoor.P
open Go.RowKit Go.Proofs.YtbkhkdadipigfaaDoorW.PrintWords Go.Proofs.YtbkhkdadipigfaaDoorW.PrintLast Go.Proofs.YtbkhkdadipigfaaDoorW.PrintMore
attribute [local go_sem] max2_int min2_int max_two min_two max_three min_three max_four min_four   -- for this text's walks alone
set_option linter.unusedVariables false
set_option linter.unusedSimpArgs false

/-! ### messuageref20_Under: function 38 -/
def messuageref20_Under.f (k : Nat) (a0 : ByteArray) (a1 : ByteArray) : Option (Bool) := (messuageref04_Archive.f k a0).bind fun bt308 => ((messuageref04_Archive.f k a1).bind fun bt311 => (if bt311.2.2 = true then (if bt308.2.2 = true then (if bt308.1.toList = bt311.1.toList then (if bt308.2.1.toList = bt311.2.1.toList then (some false) else (if 1 + bt308.2.1.size ≤ 9223372036854775807 then (if 1 + bt311.2.1.size ≤ 9223372036854775807 then ((messuageref04_Under.f ((⟨#[47]⟩ : ByteArray) ++ bt308.2.1) ((⟨#[47]⟩ : ByteArray) ++ bt311.2.1)).bind fun t314 => (some t314)) else (none)) else (none))) else (some false)) else (some false)) else (if bt308.2.2 = true then (if bt308.1.toList = bt311.1.toList then (some true) else ((messuageref04_Under.f bt308.1 bt311.1).bind fun t315 => (some t315))) else (if bt308.1.toList = bt311.1.toList then (some false) else ((messuageref04_Under.f bt308.1 bt311.1).bind fun t316 => (some t316))))))
theorem messuageref20_Under.mono : ∀ a0 a1 k, LeO (messuageref20_Under.f k a0 a1) (messuageref20_Under.f (k + 1) a0 a1) := by
  intro a0 a1 k
  unfold messuageref20_Under.f
  repeat' first
      | (with_reducible exact messuageref04_Archive.mono _ _)
      | (with_reducible exact LeO.refl _)
      | (with_reducible exact LeO.none _)
      | (with_reducible refine LeO.ite ?_ ?_)
      | (with_reducible refine LeO.bind ?_ (fun _ => ?_))
      | exact messuageref04_Archive.mono _ _
      | exact LeO.none _
      | refine LeO.ite ?_ ?_
      | refine LeO.bind ?_ (fun _ => ?_)
set_option maxHeartbeats 8000000 in
set_option maxRecDepth 100000 in
theorem messuageref20_Under.calls (k : Nat) (a0 : ByteArray) (a1 : ByteArray) (r : Bool) (w : World) (h : messuageref20_Under.f k a0 a1 = some r) :
    Calls Tryd.prog 38 #[.string a0, .string a1] w fun e w' => e = .returned (.bool r) ∧ Drawn0 w w' := by
  have H : ((messuageref04_Archive.f k a0).bind fun bt308 => ((messuageref04_Archive.f k a1).bind fun bt311 => (if bt311.2.2 = true then (if bt308.2.2 = true then (if bt308.1.toList = bt311.1.toList then (if bt308.2.1.toList = bt311.2.1.toList then (some false) else (if 1 + bt308.2.1.size ≤ 9223372036854775807 then (if 1 + bt311.2.1.size ≤ 9223372036854775807 then ((messuageref04_Under.f ((⟨#[47]⟩ : ByteArray) ++ bt308.2.1) ((⟨#[47]⟩ : ByteArray) ++ bt311.2.1)).bind fun t314 => (some t314)) else (none)) else (none))) else (some false)) else (some false)) else (if bt308.2.2 = true then (if bt308.1.toList = bt311.1.toList then (some true) else ((messuageref04_Under.f bt308.1 bt311.1).bind fun t315 => (some t315))) else (if bt308.1.toList = bt311.1.toList then (some false) else ((messuageref04_Under.f bt308.1 bt311.1).bind fun t316 => (some t316))))))) = some r := h
  clear h
  replace H := Option.bind_eq_some_iff.mp H
  obtain ⟨⟨t308, t309, t310⟩, A30, H⟩ := H
  replace H : ((messuageref04_Archive.f k a1).bind fun bt311 => (if bt311.2.2 = true then (if t310 = true then (if t308.toList = bt311.1.toList then (if t309.toList = bt311.2.1.toList then (some false) else (if 1 + t309.size ≤ 9223372036854775807 then (if 1 + bt311.2.1.size ≤ 9223372036854775807 then ((messuageref04_Under.f ((⟨#[47]⟩ : ByteArray) ++ t309) ((⟨#[47]⟩ : ByteArray) ++ bt311.2.1)).bind fun t314 => (some t314)) else (none)) else (none))) else (some false)) else (some false)) else (if t310 = true then (if t308.toList = bt311.1.toList then (some true) else ((messuageref04_Under.f t308 bt311.1).bind fun t315 => (some t315))) else (if t308.toList = bt311.1.toList then (some false) else ((messuageref04_Under.f t308 bt311.1).bind fun t316 => (some t316)))))) = some r := H
  have A3 := Aside0.mk A30
  clear A30
  replace H := Option.bind_eq_some_iff.mp H
  obtain ⟨⟨t311, t312, t313⟩, A40, H⟩ := H
  replace H : (if t313 = true then (if t310 = true then (if t308.toList = t311.toList then (if t309.toList = t312.toList then (some false) else (if 1 + t309.size ≤ 9223372036854775807 then (if 1 + t312.size ≤ 9223372036854775807 then ((messuageref04_Under.f ((⟨#[47]⟩ : ByteArray) ++ t309) ((⟨#[47]⟩ : ByteArray) ++ t312)).bind fun t314 => (some t314)) else (none)) else (none))) else (some false)) else (some false)) else (if t310 = true then (if t308.toList = t311.toList then (some true) else ((messuageref04_Under.f t308 t311).bind fun t315 => (some t315))) else (if t308.toList = t311.toList then (some false) else ((messuageref04_Under.f t308 t311).bind fun t316 => (some t316))))) = some r := H
  have A4 := Aside0.mk A40
  clear A40
  by_cases c5 : t313 = true
  · subst c5
    have H1 : (if t310 = true then (if t308.toList = t311.toList then (if t309.toList = t312.toList then (some false) else (if 1 + t309.size ≤ 9223372036854775807 then (if 1 + t312.size ≤ 9223372036854775807 then ((messuageref04_Under.f ((⟨#[47]⟩ : ByteArray) ++ t309) ((⟨#[47]⟩ : ByteArray) ++ t312)).bind fun t314 => (some t314)) else (none)) else (none))) else (some false)) else (some false)) = some r := by rw [if_pos rfl] at H; exact H
    clear H
    have H := H1
    clear H1
    by_cases c6 : t310 = true
    · subst c6
      have H1 : (if t308.toList = t311.toList then (if t309.toList = t312.toList then (some false) else (if 1 + t309.size ≤ 9223372036854775807 then (if 1 + t312.size ≤ 9223372036854775807 then ((messuageref04_Under.f ((⟨#[47]⟩ : ByteArray) ++ t309) ((⟨#[47]⟩ : ByteArray) ++ t312)).bind fun t314 => (some t314)) else (none)) else (none))) else (some false)) = some r := by rw [if_pos rfl] at H; exact H
      clear H
      have H := H1
      clear H1
      by_cases c7 : t308.toList = t311.toList
      · rw [if_pos c7] at H
        have c7b0 : (t308.toList == t311.toList) = true := beq_iff_eq.mpr c7
        have c7b1 : (t308.toList != t311.toList) = false := bne_eq_false_iff_eq.mpr c7
        clear c7
        by_cases c8 : t309.toList = t312.toList
        · rw [if_pos c8] at H
          have c8b0 : (t309.toList == t312.toList) = true := beq_iff_eq.mpr c8
          have c8b1 : (t309.toList != t312.toList) = false := bne_eq_false_iff_eq.mpr c8
          clear c8
          obtain rfl := Option.some.inj H
          go_enter Tryd.func38, Tryd.ntmps38
          go_wp2_with (first | ((with_reducible refine gate_callee (f := 28) rfl ?_); refine goesL_ (some 13) rfl rfl Tryd.func28 (by kernel_rfl) rfl #[.string a0] rfl (by (try simp only [List.map_toArray, List.map_cons, List.map_nil]); first | done | rfl | (simp only [List.length_drop, List.length_take]; rfl)) ?_; (with_reducible refine (messuageref04_Archive.calls k a0 t308 t309 true _ A3.out).mono ?_); rintro e w' ⟨rfl, ⟨nd, rfl⟩⟩; refine ⟨_, rfl, ?_⟩) | ((with_reducible refine gate_callee (f := 28) rfl ?_); refine goesL_ (some 19) rfl rfl Tryd.func28 (by kernel_rfl) rfl #[.string a1] rfl (by (try simp only [List.map_toArray, List.map_cons, List.map_nil]); first | done | rfl | (simp only [List.length_drop, List.length_take]; rfl)) ?_; (with_reducible refine (messuageref04_Archive.calls k a1 t311 t312 true _ A4.out).mono ?_); rintro e w' ⟨rfl, ⟨nd, rfl⟩⟩; refine ⟨_, rfl, ?_⟩))
          go_ret
          exact ⟨by first | rfl | (simp; done) | (simp [*]; done), by repeat (first | exact Drawn0.refl _ | apply Drawn0.step)⟩
        · rw [if_neg c8] at H
          have c8b0 : (t309.toList == t312.toList) = false := beq_eq_false_iff_ne.mpr c8
          have c8b1 : (t309.toList != t312.toList) = true := bne_iff_ne.mpr c8
          by_cases c9 : 1 + t309.size ≤ 9223372036854775807
          · rw [if_pos c9] at H
            have c9b0 := eq_true c9
            have c9b1 : decide (1 + t309.size ≤ 9223372036854775807) = true := decide_eq_true c9
            try have c9b2 : (9223372036854775807 < 1 + t309.size) = False := eq_false (Nat.not_lt.2 c9)
            by_cases c10 : 1 + t312.size ≤ 9223372036854775807
            · rw [if_pos c10] at H
              have c10b0 := eq_true c10
              have c10b1 : decide (1 + t312.size ≤ 9223372036854775807) = true := decide_eq_true c10
              try have c10b2 : (9223372036854775807 < 1 + t312.size) = False := eq_false (Nat.not_lt.2 c10)
              replace H := Option.bind_eq_some_iff.mp H
              obtain ⟨t314, A110, H⟩ := H
              replace H : (some t314) = some r := H
              have A11 := Aside0.mk A110
              clear A110
              obtain rfl := Option.some.inj H
              go_enter Tryd.func38, Tryd.ntmps38
              go_wp2_with (first | ((with_reducible refine gate_callee (f := 28) rfl ?_); refine goesL_ (some 13) rfl rfl Tryd.func28 (by kernel_rfl) rfl #[.string a0] rfl (by (try simp only [List.map_toArray, List.map_cons, List.map_nil]); first | done | rfl | (simp only [List.length_drop, List.length_take]; rfl)) ?_; (with_reducible refine (messuageref04_Archive.calls k a0 t308 t309 true _ A3.out).mono ?_); rintro e w' ⟨rfl, ⟨nd, rfl⟩⟩; refine ⟨_, rfl, ?_⟩) | ((with_reducible refine gate_callee (f := 28) rfl ?_); refine goesL_ (some 19) rfl rfl Tryd.func28 (by kernel_rfl) rfl #[.string a1] rfl (by (try simp only [List.map_toArray, List.map_cons, List.map_nil]); first | done | rfl | (simp only [List.length_drop, List.length_take]; rfl)) ?_; (with_reducible refine (messuageref04_Archive.calls k a1 t311 t312 true _ A4.out).mono ?_); rintro e w' ⟨rfl, ⟨nd, rfl⟩⟩; refine ⟨_, rfl, ?_⟩) | (go_at_call 31; (with_reducible refine (messuageref04_Under.calls ((⟨#[47]⟩ : ByteArray) ++ t309) ((⟨#[47]⟩ : ByteArray) ++ t312) t314 _ A11.out).mono ?_); rintro e w' ⟨rfl, ⟨nd, rfl⟩⟩))
              go_ret
              exact ⟨by first | rfl | (simp; done) | (simp [*]; done), by repeat (first | exact Drawn0.refl _ | apply Drawn0.step)⟩
            · rw [if_neg c10] at H
              exact absurd H (by simp)
          · rw [if_neg c9] at H
            exact absurd H (by simp)
      · rw [if_neg c7] at H
        have c7b0 : (t308.toList == t311.toList) = false := beq_eq_false_iff_ne.mpr c7
        have c7b1 : (t308.toList != t311.toList) = true := bne_iff_ne.mpr c7
        obtain rfl := Option.some.inj H
        go_enter Tryd.func38, Tryd.ntmps38
        go_wp2_with (first | ((with_reducible refine gate_callee (f := 28) rfl ?_); refine goesL_ (some 13) rfl rfl Tryd.func28 (by kernel_rfl) rfl #[.string a0] rfl (by (try simp only [List.map_toArray, List.map_cons, List.map_nil]); first | done | rfl | (simp only [List.length_drop, List.length_take]; rfl)) ?_; (with_reducible refine (messuageref04_Archive.calls k a0 t308 t309 true _ A3.out).mono ?_); rintro e w' ⟨rfl, ⟨nd, rfl⟩⟩; refine ⟨_, rfl, ?_⟩) | ((with_reducible refine gate_callee (f := 28) rfl ?_); refine goesL_ (some 19) rfl rfl Tryd.func28 (by kernel_rfl) rfl #[.string a1] rfl (by (try simp only [List.map_toArray, List.map_cons, List.map_nil]); first | done | rfl | (simp only [List.length_drop, List.length_take]; rfl)) ?_; (with_reducible refine (messuageref04_Archive.calls k a1 t311 t312 true _ A4.out).mono ?_); rintro e w' ⟨rfl, ⟨nd, rfl⟩⟩; refine ⟨_, rfl, ?_⟩))
        go_ret
        exact ⟨by first | rfl | (simp; done) | (simp [*]; done), by repeat (first | exact Drawn0.refl _ | apply Drawn0.step)⟩
    · replace c6 := Bool.eq_false_iff.mpr c6
      subst c6
      have H1 : (some false) = some r := by rw [if_neg (show ¬ (false = true) by decide)] at H; exact H
      clear H
      have H := H1
      clear H1
      obtain rfl := Option.some.inj H
      go_enter Tryd.func38, Tryd.ntmps38
      go_wp2_with (first | ((with_reducible refine gate_callee (f := 28) rfl ?_); refine goesL_ (some 13) rfl rfl Tryd.func28 (by kernel_rfl) rfl #[.string a0] rfl (by (try simp only [List.map_toArray, List.map_cons, List.map_nil]); first | done | rfl | (simp only [List.length_drop, List.length_take]; rfl)) ?_; (with_reducible refine (messuageref04_Archive.calls k a0 t308 t309 false _ A3.out).mono ?_); rintro e w' ⟨rfl, ⟨nd, rfl⟩⟩; refine ⟨_, rfl, ?_⟩) | ((with_reducible refine gate_callee (f := 28) rfl ?_); refine goesL_ (some 19) rfl rfl Tryd.func28 (by kernel_rfl) rfl #[.string a1] rfl (by (try simp only [List.map_toArray, List.map_cons, List.map_nil]); first | done | rfl | (simp only [List.length_drop, List.length_take]; rfl)) ?_; (with_reducible refine (messuageref04_Archive.calls k a1 t311 t312 true _ A4.out).mono ?_); rintro e w' ⟨rfl, ⟨nd, rfl⟩⟩; refine ⟨_, rfl, ?_⟩))
      go_ret
      exact ⟨by first | rfl | (simp; done) | (simp [*]; done), by repeat (first | exact Drawn0.refl _ | apply Drawn0.step)⟩
  · replace c5 := Bool.eq_false_iff.mpr c5
    subst c5
    have H1 : (if t310 = true then (if t308.toList = t311.toList then (some true) else ((messuageref04_Under.f t308 t311).bind fun t315 => (some t315))) else (if t308.toList = t311.toList then (some false) else ((messuageref04_Under.f t308 t311).bind fun t316 => (some t316)))) = some r := by rw [if_neg (show ¬ (false = true) by decide)] at H; exact H
    clear H
    have H := H1
    clear H1
    by_cases c12 : t310 = true
    · subst c12
      have H1 : (if t308.toList = t311.toList then (some true) else ((messuageref04_Under.f t308 t311).bind fun t315 => (some t315))) = some r := by rw [if_pos rfl] at H; exact H
      clear H
      have H := H1
      clear H1
      by_cases c13 : t308.toList = t311.toList
      · rw [if_pos c13] at H
        have c13b0 : (t308.toList == t311.toList) = true := beq_iff_eq.mpr c13
        have c13b1 : (t308.toList != t311.toList) = false := bne_eq_false_iff_eq.mpr c13
        clear c13
        obtain rfl := Option.some.inj H
        go_enter Tryd.func38, Tryd.ntmps38
        go_wp2_with (first | ((with_reducible refine gate_callee (f := 28) rfl ?_); refine goesL_ (some 13) rfl rfl Tryd.func28 (by kernel_rfl) rfl #[.string a0] rfl (by (try simp only [List.map_toArray, List.map_cons, List.map_nil]); first | done | rfl | (simp only [List.length_drop, List.length_take]; rfl)) ?_; (with_reducible refine (messuageref04_Archive.calls k a0 t308 t309 true _ A3.out).mono ?_); rintro e w' ⟨rfl, ⟨nd, rfl⟩⟩; refine ⟨_, rfl, ?_⟩) | ((with_reducible refine gate_callee (f := 28) rfl ?_); refine goesL_ (some 19) rfl rfl Tryd.func28 (by kernel_rfl) rfl #[.string a1] rfl (by (try simp only [List.map_toArray, List.map_cons, List.map_nil]); first | done | rfl | (simp only [List.length_drop, List.length_take]; rfl)) ?_; (with_reducible refine (messuageref04_Archive.calls k a1 t311 t312 false _ A4.out).mono ?_); rintro e w' ⟨rfl, ⟨nd, rfl⟩⟩; refine ⟨_, rfl, ?_⟩))
        go_ret
        exact ⟨by first | rfl | (simp; done) | (simp [*]; done), by repeat (first | exact Drawn0.refl _ | apply Drawn0.step)⟩
      · rw [if_neg c13] at H
        have c13b0 : (t308.toList == t311.toList) = false := beq_eq_false_iff_ne.mpr c13
        have c13b1 : (t308.toList != t311.toList) = true := bne_iff_ne.mpr c13
        replace H := Option.bind_eq_some_iff.mp H
        obtain ⟨t315, A140, H⟩ := H
        replace H : (some t315) = some r := H
        have A14 := Aside0.mk A140
        clear A140
        obtain rfl := Option.some.inj H
        go_enter Tryd.func38, Tryd.ntmps38
        go_wp2_with (first | ((with_reducible refine gate_callee (f := 28) rfl ?_); refine goesL_ (some 13) rfl rfl Tryd.func28 (by kernel_rfl) rfl #[.string a0] rfl (by (try simp only [List.map_toArray, List.map_cons, List.map_nil]); first | done | rfl | (simp only [List.length_drop, List.length_take]; rfl)) ?_; (with_reducible refine (messuageref04_Archive.calls k a0 t308 t309 true _ A3.out).mono ?_); rintro e w' ⟨rfl, ⟨nd, rfl⟩⟩; refine ⟨_, rfl, ?_⟩) | ((with_reducible refine gate_callee (f := 28) rfl ?_); refine goesL_ (some 19) rfl rfl Tryd.func28 (by kernel_rfl) rfl #[.string a1] rfl (by (try simp only [List.map_toArray, List.map_cons, List.map_nil]); first | done | rfl | (simp only [List.length_drop, List.length_take]; rfl)) ?_; (with_reducible refine (messuageref04_Archive.calls k a1 t311 t312 false _ A4.out).mono ?_); rintro e w' ⟨rfl, ⟨nd, rfl⟩⟩; refine ⟨_, rfl, ?_⟩) | (go_at_call 31; (with_reducible refine (messuageref04_Under.calls t308 t311 t315 _ A14.out).mono ?_); rintro e w' ⟨rfl, ⟨nd, rfl⟩⟩))
        go_ret
        exact ⟨by first | rfl | (simp; done) | (simp [*]; done), by repeat (first | exact Drawn0.refl _ | apply Drawn0.step)⟩
    · replace c12 := Bool.eq_false_iff.mpr c12
      subst c12
      have H1 : (if t308.toList = t311.toList then (some false) else ((messuageref04_Under.f t308 t311).bind fun t316 => (some t316))) = some r := by rw [if_neg (show ¬ (false = true) by decide)] at H; exact H
      clear H
      have H := H1
      clear H1
      by_cases c15 : t308.toList = t311.toList
      · rw [if_pos c15] at H
        have c15b0 : (t308.toList == t311.toList) = true := beq_iff_eq.mpr c15
        have c15b1 : (t308.toList != t311.toList) = false := bne_eq_false_iff_eq.mpr c15
        clear c15
        obtain rfl := Option.some.inj H
        go_enter Tryd.func38, Tryd.ntmps38
        go_wp2_with (first | ((with_reducible refine gate_callee (f := 28) rfl ?_); refine goesL_ (some 13) rfl rfl Tryd.func28 (by kernel_rfl) rfl #[.string a0] rfl (by (try simp only [List.map_toArray, List.map_cons, List.map_nil]); first | done | rfl | (simp only [List.length_drop, List.length_take]; rfl)) ?_; (with_reducible refine (messuageref04_Archive.calls k a0 t308 t309 false _ A3.out).mono ?_); rintro e w' ⟨rfl, ⟨nd, rfl⟩⟩; refine ⟨_, rfl, ?_⟩) | ((with_reducible refine gate_callee (f := 28) rfl ?_); refine goesL_ (some 19) rfl rfl Tryd.func28 (by kernel_rfl) rfl #[.string a1] rfl (by (try simp only [List.map_toArray, List.map_cons, List.map_nil]); first | done | rfl | (simp only [List.length_drop, List.length_take]; rfl)) ?_; (with_reducible refine (messuageref04_Archive.calls k a1 t311 t312 false _ A4.out).mono ?_); rintro e w' ⟨rfl, ⟨nd, rfl⟩⟩; refine ⟨_, rfl, ?_⟩))
        go_ret
        exact ⟨by first | rfl | (simp; done) | (simp [*]; done), by repeat (first | exact Drawn0.refl _ | apply Drawn0.step)⟩
      · rw [if_neg c15] at H
        have c15b0 : (t308.toList == t311.toList) = false := beq_eq_false_iff_ne.mpr c15
        have c15b1 : (t308.toList != t311.toList) = true := bne_iff_ne.mpr c15
        replace H := Option.bind_eq_some_iff.mp H
        obtain ⟨t316, A160, H⟩ := H
        replace H : (some t316) = some r := H
        have A16 := Aside0.mk A160
        clear A160
        obtain rfl := Option.some.inj H
        go_enter Tryd.func38, Tryd.ntmps38
        go_wp2_with (first | ((with_reducible refine gate_callee (f := 28) rfl ?_); refine goesL_ (some 13) rfl rfl Tryd.func28 (by kernel_rfl) rfl #[.string a0] rfl (by (try simp only [List.map_toArray, List.map_cons, List.map_nil]); first | done | rfl | (simp only [List.length_drop, List.length_take]; rfl)) ?_; (with_reducible refine (messuageref04_Archive.calls k a0 t308 t309 false _ A3.out).mono ?_); rintro e w' ⟨rfl, ⟨nd, rfl⟩⟩; refine ⟨_, rfl, ?_⟩) | ((with_reducible refine gate_callee (f := 28) rfl ?_); refine goesL_ (some 19) rfl rfl Tryd.func28 (by kernel_rfl) rfl #[.string a1] rfl (by (try simp only [List.map_toArray, List.map_cons, List.map_nil]); first | done | rfl | (simp only [List.length_drop, List.length_take]; rfl)) ?_; (with_reducible refine (messuageref04_Archive.calls k a1 t311 t312 false _ A4.out).mono ?_); rintro e w' ⟨rfl, ⟨nd, rfl⟩⟩; refine ⟨_, rfl, ?_⟩) | (go_at_call 31; (with_reducible refine (messuageref04_Under.calls t308 t311 t316 _ A16.out).mono ?_); rintro e w' ⟨rfl, ⟨nd, rfl⟩⟩))
        go_ret
        exact ⟨by first | rfl | (simp; done) | (simp [*]; done), by repeat (first | exact Drawn0.refl _ | apply Drawn0.step)⟩

/-! ### policy_Right: function 61 -/
mutual
def policy_Right.j0 : Nat → Bool → Int → Int → List ByteArray → Int → ByteArray → Int → Int → Option (Int)
  | 0, _, _, _, _, _, _, _, _ => none
  | k + 1, x10, x318000, x318001, x318002, x318003, x318004, x318005, x318006 => if x10 = true then (some 83) else (if x318005 < 1 then (policy_Right.j1 k true x318000 x318001 x318002 x318003 x318004 x318005 x318006) else (policy_Right.j1 k (decide (x318005 > 1024)) x318000 x318001 x318002 x318003 x318004 x318005 x318006))
def policy_Right.j1 : Nat → Bool → Int → Int → List ByteArray → Int → ByteArray → Int → Int → Option (Int)
  | 0, _, _, _, _, _, _, _, _ => none
  | k + 1, x18, x318000, x318001, x318002, x318003, x318004, x318005, x318006 => if x18 = true then (some 50) else (if x318006 < 1 then (policy_Right.j2 k true x318000 x318001 x318002 x318003 x318004 x318005 x318006) else (policy_Right.j2 k (decide (x318006 > 64)) x318000 x318001 x318002 x318003 x318004 x318005 x318006))
def policy_Right.j2 : Nat → Bool → Int → Int → List ByteArray → Int → ByteArray → Int → Int → Option (Int)
  | 0, _, _, _, _, _, _, _, _ => none
  | k + 1, x26, x318000, x318001, x318002, x318003, x318004, x318005, x318006 => if x26 = true then (some 221) else (if (x318002.length : Int) > 32 then (some 192) else (if x318004.toList = ([] : List UInt8) then (some 0) else ((path_IsClean.f k x318004).bind fun t318 => (if t318 = true then (some 0) else (some 192)))))
end
def policy_Right.f (k : Nat) (a0_0 : Int) (a0_1 : Int) (l0_2 : List ByteArray) (a0_3 : Int) (a0_4 : ByteArray) (a0_5 : Int) (a0_6 : Int) : Option (Int) := if a0_0 = 62 then (policy_Right.j0 k false a0_0 a0_1 l0_2 a0_3 a0_4 a0_5 a0_6) else (policy_Right.j0 k (a0_0 != 183) a0_0 a0_1 l0_2 a0_3 a0_4 a0_5 a0_6)
theorem policy_Right.mono_l : ∀ k, (∀ y0 y1 y2 y3 y4 y5 y6 y7, LeO (policy_Right.j0 k y0 y1 y2 y3 y4 y5 y6 y7) (policy_Right.j0 (k + 1) y0 y1 y2 y3 y4 y5 y6 y7)) ∧ (∀ y0 y1 y2 y3 y4 y5 y6 y7, LeO (policy_Right.j1 k y0 y1 y2 y3 y4 y5 y6 y7) (policy_Right.j1 (k + 1) y0 y1 y2 y3 y4 y5 y6 y7)) ∧ (∀ y0 y1 y2 y3 y4 y5 y6 y7, LeO (policy_Right.j2 k y0 y1 y2 y3 y4 y5 y6 y7) (policy_Right.j2 (k + 1) y0 y1 y2 y3 y4 y5 y6 y7))
  | 0 => ⟨fun _ _ _ _ _ _ _ _ r h => by simp [policy_Right.j0] at h, fun _ _ _ _ _ _ _ _ r h => by simp [policy_Right.j1] at h, fun _ _ _ _ _ _ _ _ r h => by simp [policy_Right.j2] at h⟩
  | k + 1 => by
    obtain ⟨ih0, ih1, ih2⟩ := policy_Right.mono_l k
    refine ⟨?_, ?_, ?_⟩
    · intro y0 y1 y2 y3 y4 y5 y6 y7
      unfold policy_Right.j0
      repeat' first
      | (with_reducible exact ih0 _ _ _ _ _ _ _ _)
      | (with_reducible exact ih1 _ _ _ _ _ _ _ _)
      | (with_reducible exact ih2 _ _ _ _ _ _ _ _)
      | (with_reducible exact path_IsClean.mono _ _)
      | (with_reducible exact LeO.refl _)
      | (with_reducible exact LeO.none _)
      | (with_reducible refine LeO.ite ?_ ?_)
      | (with_reducible refine LeO.bind ?_ (fun _ => ?_))
      | exact ih0 _ _ _ _ _ _ _ _
      | exact ih1 _ _ _ _ _ _ _ _
      | exact ih2 _ _ _ _ _ _ _ _
      | exact path_IsClean.mono _ _
      | exact LeO.none _
      | refine LeO.ite ?_ ?_
      | refine LeO.bind ?_ (fun _ => ?_)
    · intro y0 y1 y2 y3 y4 y5 y6 y7
      unfold policy_Right.j1
      repeat' first
      | (with_reducible exact ih0 _ _ _ _ _ _ _ _)
      | (with_reducible exact ih1 _ _ _ _ _ _ _ _)
      | (with_reducible exact ih2 _ _ _ _ _ _ _ _)
      | (with_reducible exact path_IsClean.mono _ _)
      | (with_reducible exact LeO.refl _)
      | (with_reducible exact LeO.none _)
      | (with_reducible refine LeO.ite ?_ ?_)
      | (with_reducible refine LeO.bind ?_ (fun _ => ?_))
      | exact ih0 _ _ _ _ _ _ _ _
      | exact ih1 _ _ _ _ _ _ _ _
      | exact ih2 _ _ _ _ _ _ _ _
      | exact path_IsClean.mono _ _
      | exact LeO.none _
      | refine LeO.ite ?_ ?_
      | refine LeO.bind ?_ (fun _ => ?_)
    · intro y0 y1 y2 y3 y4 y5 y6 y7
      unfold policy_Right.j2
      repeat' first
      | (with_reducible exact ih0 _ _ _ _ _ _ _ _)
      | (with_reducible exact ih1 _ _ _ _ _ _ _ _)
      | (with_reducible exact ih2 _ _ _ _ _ _ _ _)
      | (with_reducible exact path_IsClean.mono _ _)
      | (with_reducible exact LeO.refl _)
      | (with_reducible exact LeO.none _)
      | (with_reducible refine LeO.ite ?_ ?_)
      | (with_reducible refine LeO.bind ?_ (fun _ => ?_))
      | exact ih0 _ _ _ _ _ _ _ _
      | exact ih1 _ _ _ _ _ _ _ _
      | exact ih2 _ _ _ _ _ _ _ _
      | exact path_IsClean.mono _ _
      | exact LeO.none _
      | refine LeO.ite ?_ ?_
      | refine LeO.bind ?_ (fun _ => ?_)
theorem policy_Right.mono : ∀ a0 a1 a2 a3 a4 a5 a6 k, LeO (policy_Right.f k a0 a1 a2 a3 a4 a5 a6) (policy_Right.f (k + 1) a0 a1 a2 a3 a4 a5 a6) := by
  intro a0 a1 a2 a3 a4 a5 a6 k
  obtain ⟨ih0, ih1, ih2⟩ := policy_Right.mono_l k
  unfold policy_Right.f
  repeat' first
      | (with_reducible exact ih0 _ _ _ _ _ _ _ _)
      | (with_reducible exact ih1 _ _ _ _ _ _ _ _)
      | (with_reducible exact ih2 _ _ _ _ _ _ _ _)
      | (with_reducible exact path_IsClean.mono _ _)
      | (with_reducible exact LeO.refl _)
      | (with_reducible exact LeO.none _)
      | (with_reducible refine LeO.ite ?_ ?_)
      | (with_reducible refine LeO.bind ?_ (fun _ => ?_))
      | exact ih0 _ _ _ _ _ _ _ _
      | exact ih1 _ _ _ _ _ _ _ _
      | exact ih2 _ _ _ _ _ _ _ _
      | exact path_IsClean.mono _ _
      | exact LeO.none _
      | refine LeO.ite ?_ ?_
      | refine LeO.bind ?_ (fun _ => ?_)
set_option maxHeartbeats 8000000 in
set_option maxRecDepth 100000 in
theorem policy_Right.calls (k : Nat) (a0_0 : Int) (a0_1 : Int) (A0_2 : Option Addr) (c0_2 : Nat) (l0_2 : List ByteArray) (a0_3 : Int) (a0_4 : ByteArray) (a0_5 : Int) (a0_6 : Int) (r : Int) (w : World) (hsh : SH w) (hr0_2 : Kd.C Kd.string w A0_2 l0_2.length l0_2) (hc0_2 : l0_2.length ≤ c0_2) (h : policy_Right.f k a0_0 a0_1 l0_2 a0_3 a0_4 a0_5 a0_6 = some r) :
    Calls Tryd.prog 61 #[.agg #[.int .u16 a0_0, .int .i64 a0_1, .slice A0_2 l0_2.length c0_2, .int .i64 a0_3, .string a0_4, .int .i64 a0_5, .int .i64 a0_6]] w fun e w' => e = .returned (.int .i64 r) ∧ Below w.heap.size w w' := by
  have hu44 := Tryd.underlying44
  have HSH := Aside0.mk hsh
  clear hsh
  have HR0_2 := Aside0.mk hr0_2
  have HC0_2 := Aside0.mk hc0_2
  clear hr0_2 hc0_2
  have HB := Aside0.mk (Below.refl w.heap.size w)
  have H : (if a0_0 = 62 then (policy_Right.j0 k false a0_0 a0_1 l0_2 a0_3 a0_4 a0_5 a0_6) else (policy_Right.j0 k (a0_0 != 183) a0_0 a0_1 l0_2 a0_3 a0_4 a0_5 a0_6)) = some r := h
  clear h
  have HC2 := Aside0.mk H
  clear H
  go_enter Tryd.func61, Tryd.ntmps61
  go_upto_region 1 with (first | ((with_reducible refine gate_dst (N := 1) rfl ?_); refine box_event ?hg (N := 1) ?hd (cs := #[.int .u16 a0_0, .int .i64 a0_1, .slice A0_2 l0_2.length c0_2, .int .i64 a0_3, .string a0_4, .int .i64 a0_5, .int .i64 a0_6]) (t := 44) ?hr ?_; (case hd => rfl); (case hg => rfl); (case hr => first | (go_simp; done) | (go_simp; rfl)); intro gb317 hg w3 hbox hb; have n0_ := Aside0.mk (below_step (by repeat (first | (with_reducible first | exact HB.out | apply below_alloc | apply pw_below_drewN | apply below_drew1) | exact HB.out)) hb); have n1_ := Aside0.mk (hbox); have n2_ := Aside0.mk ((by rw [hg]; exact (below_size (by repeat (first | (with_reducible first | exact HB.out | apply below_alloc | apply pw_below_drewN | apply below_drew1) | exact HB.out))) : w.heap.size ≤ gb317)); have n3_ := Aside0.mk ((by rw [hg]; exact (below_size (by repeat (first | (with_reducible first | exact HB.out | apply below_alloc | apply pw_below_drewN | apply below_drew1) | exact HB.out))) : w.heap.size ≤ gb317)); clear HB; have HB := n0_; have BK317 := n1_; have GW317 := n2_; have GE317 := n3_; clear n0_ n1_ n2_ n3_; clear hb hbox hg))
  (try simp only [Act.put, List.setIfInBounds_toArray, List.set_cons_zero, List.set_cons_succ])
  go_cut [10] (fun v10 wc => ∃ (kq : Nat) (x10_1 : Bool), v10 = .bool x10_1 ∧ Aside0 (policy_Right.j0 kq x10_1 a0_0 a0_1 l0_2 a0_3 a0_4 a0_5 a0_6 = some r) ∧ Aside0 (kq ≤ k) ∧ Aside0 (wc.heap[gb317]? = some (.cells #[.int .u16 a0_0, .int .i64 a0_1, (.slice A0_2 l0_2.length c0_2), .int .i64 a0_3, .string a0_4, .int .i64 a0_5, .int .i64 a0_6] 44 (0, 0))) ∧ Aside0 (Below w.heap.size w wc))
  case first =>
    have H := HC2.out
    clear HC2
    by_cases c4 : a0_0 = 62
    · rw [if_pos c4] at H
      have c4b0 : (a0_0 == 62) = true := beq_iff_eq.mpr c4
      have c4b1 : (a0_0 != 62) = false := bne_eq_false_iff_eq.mpr c4
      clear c4
      (first | rw [c4b0] | (simp only [i64_w, i32_w]; rw [c4b0]) | skip)
      have H' := Aside0.mk H
      clear H
      have hcz5_0 : w3.cell? ⟨gb317, 0, none⟩ = some (.int .u16 a0_0) := (blk_cell BK317.out 0).trans rfl
      have hcz5_1 : w3.cell? ⟨gb317, 1, none⟩ = some (.int .i64 a0_1) := (blk_cell BK317.out 1).trans rfl
      have hcz5_2 : w3.cell? ⟨gb317, 2, none⟩ = some (.slice A0_2 l0_2.length c0_2) := (blk_cell BK317.out 2).trans rfl
      have hcz5_3 : w3.cell? ⟨gb317, 3, none⟩ = some (.int .i64 a0_3) := (blk_cell BK317.out 3).trans rfl
      have hcz5_4 : w3.cell? ⟨gb317, 4, none⟩ = some (.string a0_4) := (blk_cell BK317.out 4).trans rfl
      have hcz5_5 : w3.cell? ⟨gb317, 5, none⟩ = some (.int .i64 a0_5) := (blk_cell BK317.out 5).trans rfl
      have hcz5_6 : w3.cell? ⟨gb317, 6, none⟩ = some (.int .i64 a0_6) := (blk_cell BK317.out 6).trans rfl
      have hfz5_0 := blk_frozen BK317.out 0
      have hfz5_1 := blk_frozen BK317.out 1
      have hfz5_2 := blk_frozen BK317.out 2
      have hfz5_3 := blk_frozen BK317.out 3
      have hfz5_4 := blk_frozen BK317.out 4
      have hfz5_5 := blk_frozen BK317.out 5
      have hfz5_6 := blk_frozen BK317.out 6
      go_wp2
      go_meet
      case rel => exact ⟨_, (false), (by first | rfl | (simp; done) | (simp [*]; done)), H', ⟨by first | omega | exact Nat.le_refl _⟩, ⟨by (with_reducible repeat (first | refine blk_drewN ?_ _ | refine blk_drew ?_ | refine blk_alloc ?_ _)); exact BK317.out⟩, ⟨by repeat (first | (with_reducible first | exact HB.out | apply below_alloc | apply pw_below_drewN | apply below_drew1 | refine below_set ?_ GE317.out) | exact HB.out)⟩⟩
    · rw [if_neg c4] at H
      have c4b0 : (a0_0 == 62) = false := beq_eq_false_iff_ne.mpr c4
      have c4b1 : (a0_0 != 62) = true := bne_iff_ne.mpr c4
      (first | rw [c4b0] | (simp only [i64_w, i32_w]; rw [c4b0]) | skip)
      have H' := Aside0.mk H
      clear H
      have hcz6_0 : w3.cell? ⟨gb317, 0, none⟩ = some (.int .u16 a0_0) := (blk_cell BK317.out 0).trans rfl
      have hcz6_1 : w3.cell? ⟨gb317, 1, none⟩ = some (.int .i64 a0_1) := (blk_cell BK317.out 1).trans rfl
      have hcz6_2 : w3.cell? ⟨gb317, 2, none⟩ = some (.slice A0_2 l0_2.length c0_2) := (blk_cell BK317.out 2).trans rfl
      have hcz6_3 : w3.cell? ⟨gb317, 3, none⟩ = some (.int .i64 a0_3) := (blk_cell BK317.out 3).trans rfl
      have hcz6_4 : w3.cell? ⟨gb317, 4, none⟩ = some (.string a0_4) := (blk_cell BK317.out 4).trans rfl
      have hcz6_5 : w3.cell? ⟨gb317, 5, none⟩ = some (.int .i64 a0_5) := (blk_cell BK317.out 5).trans rfl
      have hcz6_6 : w3.cell? ⟨gb317, 6, none⟩ = some (.int .i64 a0_6) := (blk_cell BK317.out 6).trans rfl
      have hfz6_0 := blk_frozen BK317.out 0
      have hfz6_1 := blk_frozen BK317.out 1
      have hfz6_2 := blk_frozen BK317.out 2
      have hfz6_3 := blk_frozen BK317.out 3
      have hfz6_4 := blk_frozen BK317.out 4
      have hfz6_5 := blk_frozen BK317.out 5
      have hfz6_6 := blk_frozen BK317.out 6
      go_wp2
      go_meet
      case rel => exact ⟨_, ((a0_0 != 183)), (by first | rfl | (simp; done) | (simp [*]; done)), H', ⟨by first | omega | exact Nat.le_refl _⟩, ⟨by (with_reducible repeat (first | refine blk_drewN ?_ _ | refine blk_drew ?_ | refine blk_alloc ?_ _)); exact BK317.out⟩, ⟨by repeat (first | (with_reducible first | exact HB.out | apply below_alloc | apply pw_below_drewN | apply below_drew1 | refine below_set ?_ GE317.out) | exact HB.out)⟩⟩
  case rest =>
    clear HC2
    try clear p2
    try clear c4
    try clear c4b0
    try clear c4b1
    try clear c6
    try clear hcz5_0
    try clear hcz5_1
    try clear hcz5_2
    try clear hcz5_3
    try clear hcz5_4
    try clear hcz5_5
    try clear hcz5_6
    try clear hcz6_0
    try clear hcz6_1
    try clear hcz6_2
    try clear hcz6_3
    try clear hcz6_4
    try clear hcz6_5
    try clear hcz6_6
    try clear hfz5_0
    try clear hfz5_1
    try clear hfz5_2
    try clear hfz5_3
    try clear hfz5_4
    try clear hfz5_5
    try clear hfz5_6
    try clear hfz6_0
    try clear hfz6_1
    try clear hfz6_2
    try clear hfz6_3
    try clear hfz6_4
    try clear hfz6_5
    try clear hfz6_6
    obtain ⟨kq, x10_1, rfl, HA, HJ1, BK317, HB⟩ := hcut
    cases kq with
    | zero => exact absurd HA.out (by simp [policy_Right.j0])
    | succ kj1 =>
      have H := HA.out
      clear HA
      simp only [policy_Right.j0] at H
      by_cases c7 : x10_1 = true
      · subst c7
        have H1 : (some 83) = some r := by rw [if_pos rfl] at H; exact H
        clear H
        have H := H1
        clear H1
        obtain rfl := Option.some.inj H
        go_wp2
        go_ret
        exact ⟨by first | rfl | (simp [errW_none, errW_some] <;> rfl) | (simp [*, errW_none, errW_some] <;> rfl), by repeat (first | (with_reducible first | exact HB.out | apply below_alloc | apply pw_below_drewN | apply below_drew1 | refine below_set ?_ GE317.out) | exact HB.out)⟩
      · replace c7 := Bool.eq_false_iff.mpr c7
        subst c7
        have H1 : (if a0_5 < 1 then (policy_Right.j1 kj1 true a0_0 a0_1 l0_2 a0_3 a0_4 a0_5 a0_6) else (policy_Right.j1 kj1 (decide (a0_5 > 1024)) a0_0 a0_1 l0_2 a0_3 a0_4 a0_5 a0_6)) = some r := by rw [if_neg (show ¬ (false = true) by decide)] at H; exact H
        clear H
        have H := H1
        clear H1
        have HC8 := Aside0.mk H
        clear H
        go_upto_region 3 with (fail)
        go_cut [18] (fun v18 wc => ∃ (kq : Nat) (x18_7 : Bool), v18 = .bool x18_7 ∧ Aside0 (policy_Right.j1 kq x18_7 a0_0 a0_1 l0_2 a0_3 a0_4 a0_5 a0_6 = some r) ∧ Aside0 (kq ≤ kj1) ∧ Aside0 (wc.heap[gb317]? = some (.cells #[.int .u16 a0_0, .int .i64 a0_1, (.slice A0_2 l0_2.length c0_2), .int .i64 a0_3, .string a0_4, .int .i64 a0_5, .int .i64 a0_6] 44 (0, 0))) ∧ Aside0 (Below w.heap.size w wc))
        case first =>
          have H := HC8.out
          clear HC8
          by_cases c9 : a0_5 < 1
          · rw [if_pos c9] at H
            have c9b0 : decide (a0_5 < 1) = true := decide_eq_true c9
            clear c9
            (first | rw [c9b0] | (simp only [i64_w, i32_w]; rw [c9b0]) | skip)
            have H' := Aside0.mk H
            clear H
            have hcz10_0 : wc.cell? ⟨gb317, 0, none⟩ = some (.int .u16 a0_0) := (blk_cell BK317.out 0).trans rfl
            have hcz10_1 : wc.cell? ⟨gb317, 1, none⟩ = some (.int .i64 a0_1) := (blk_cell BK317.out 1).trans rfl
            have hcz10_2 : wc.cell? ⟨gb317, 2, none⟩ = some (.slice A0_2 l0_2.length c0_2) := (blk_cell BK317.out 2).trans rfl
            have hcz10_3 : wc.cell? ⟨gb317, 3, none⟩ = some (.int .i64 a0_3) := (blk_cell BK317.out 3).trans rfl
            have hcz10_4 : wc.cell? ⟨gb317, 4, none⟩ = some (.string a0_4) := (blk_cell BK317.out 4).trans rfl
            have hcz10_5 : wc.cell? ⟨gb317, 5, none⟩ = some (.int .i64 a0_5) := (blk_cell BK317.out 5).trans rfl
            have hcz10_6 : wc.cell? ⟨gb317, 6, none⟩ = some (.int .i64 a0_6) := (blk_cell BK317.out 6).trans rfl
            have hfz10_0 := blk_frozen BK317.out 0
            have hfz10_1 := blk_frozen BK317.out 1
            have hfz10_2 := blk_frozen BK317.out 2
            have hfz10_3 := blk_frozen BK317.out 3
            have hfz10_4 := blk_frozen BK317.out 4
            have hfz10_5 := blk_frozen BK317.out 5
            have hfz10_6 := blk_frozen BK317.out 6
            go_wp2
            go_meet
            case rel => exact ⟨_, (true), (by first | rfl | (simp; done) | (simp [*]; done)), H', ⟨by have := HJ1.out; first | omega | exact Nat.le_refl _⟩, ⟨by (with_reducible repeat (first | refine blk_drewN ?_ _ | refine blk_drew ?_ | refine blk_alloc ?_ _)); exact BK317.out⟩, ⟨by repeat (first | (with_reducible first | exact HB.out | apply below_alloc | apply pw_below_drewN | apply below_drew1 | refine below_set ?_ GE317.out) | exact HB.out)⟩⟩
          · rw [if_neg c9] at H
            have c9b0 : decide (a0_5 < 1) = false := decide_eq_false c9
            clear c9
            (first | rw [c9b0] | (simp only [i64_w, i32_w]; rw [c9b0]) | skip)
            have H' := Aside0.mk H
            clear H
            have hcz11_0 : wc.cell? ⟨gb317, 0, none⟩ = some (.int .u16 a0_0) := (blk_cell BK317.out 0).trans rfl
            have hcz11_1 : wc.cell? ⟨gb317, 1, none⟩ = some (.int .i64 a0_1) := (blk_cell BK317.out 1).trans rfl
            have hcz11_2 : wc.cell? ⟨gb317, 2, none⟩ = some (.slice A0_2 l0_2.length c0_2) := (blk_cell BK317.out 2).trans rfl
            have hcz11_3 : wc.cell? ⟨gb317, 3, none⟩ = some (.int .i64 a0_3) := (blk_cell BK317.out 3).trans rfl
            have hcz11_4 : wc.cell? ⟨gb317, 4, none⟩ = some (.string a0_4) := (blk_cell BK317.out 4).trans rfl
            have hcz11_5 : wc.cell? ⟨gb317, 5, none⟩ = some (.int .i64 a0_5) := (blk_cell BK317.out 5).trans rfl
            have hcz11_6 : wc.cell? ⟨gb317, 6, none⟩ = some (.int .i64 a0_6) := (blk_cell BK317.out 6).trans rfl
            have hfz11_0 := blk_frozen BK317.out 0
            have hfz11_1 := blk_frozen BK317.out 1
            have hfz11_2 := blk_frozen BK317.out 2
            have hfz11_3 := blk_frozen BK317.out 3
            have hfz11_4 := blk_frozen BK317.out 4
            have hfz11_5 := blk_frozen BK317.out 5
            have hfz11_6 := blk_frozen BK317.out 6
            go_wp2
            go_meet
            case rel => exact ⟨_, (decide (a0_5 > 1024)), (by first | rfl | (simp; done) | (simp [*]; done)), H', ⟨by have := HJ1.out; first | omega | exact Nat.le_refl _⟩, ⟨by (with_reducible repeat (first | refine blk_drewN ?_ _ | refine blk_drew ?_ | refine blk_alloc ?_ _)); exact BK317.out⟩, ⟨by repeat (first | (with_reducible first | exact HB.out | apply below_alloc | apply pw_below_drewN | apply below_drew1 | refine below_set ?_ GE317.out) | exact HB.out)⟩⟩
        case rest =>
          clear HC8
          try clear p2
          try clear c4
          try clear c4b0
          try clear c4b1
          try clear c6
          try clear c7
          try clear c9
          try clear c9b0
          try clear hcz10_0
          try clear hcz10_1
          try clear hcz10_2
          try clear hcz10_3
          try clear hcz10_4
          try clear hcz10_5
          try clear hcz10_6
          try clear hcz11_0
          try clear hcz11_1
          try clear hcz11_2
          try clear hcz11_3
          try clear hcz11_4
          try clear hcz11_5
          try clear hcz11_6
          try clear hcz5_0
          try clear hcz5_1
          try clear hcz5_2
          try clear hcz5_3
          try clear hcz5_4
          try clear hcz5_5
          try clear hcz5_6
          try clear hcz6_0
          try clear hcz6_1
          try clear hcz6_2
          try clear hcz6_3
          try clear hcz6_4
          try clear hcz6_5
          try clear hcz6_6
          try clear hfz10_0
          try clear hfz10_1
          try clear hfz10_2
          try clear hfz10_3
          try clear hfz10_4
          try clear hfz10_5
          try clear hfz10_6
          try clear hfz11_0
          try clear hfz11_1
          try clear hfz11_2
          try clear hfz11_3
          try clear hfz11_4
          try clear hfz11_5
          try clear hfz11_6
          try clear hfz5_0
          try clear hfz5_1
          try clear hfz5_2
          try clear hfz5_3
          try clear hfz5_4
          try clear hfz5_5
          try clear hfz5_6
          try clear hfz6_0
          try clear hfz6_1
          try clear hfz6_2
          try clear hfz6_3
          try clear hfz6_4
          try clear hfz6_5
          try clear hfz6_6
          try clear p2
          obtain ⟨kq, x18_7, rfl, HA, HJ7, BK317, HB⟩ := hcut
          cases kq with
          | zero => exact absurd HA.out (by simp [policy_Right.j1])
          | succ kj7 =>
            have H := HA.out
            clear HA
            simp only [policy_Right.j1] at H
            by_cases c12 : x18_7 = true
            · subst c12
              have H1 : (some 50) = some r := by rw [if_pos rfl] at H; exact H
              clear H
              have H := H1
              clear H1
              obtain rfl := Option.some.inj H
              go_wp2
              go_ret
              exact ⟨by first | rfl | (simp [errW_none, errW_some] <;> rfl) | (simp [*, errW_none, errW_some] <;> rfl), by repeat (first | (with_reducible first | exact HB.out | apply below_alloc | apply pw_below_drewN | apply below_drew1 | refine below_set ?_ GE317.out) | exact HB.out)⟩
            · replace c12 := Bool.eq_false_iff.mpr c12
              subst c12
              have H1 : (if a0_6 < 1 then (policy_Right.j2 kj7 true a0_0 a0_1 l0_2 a0_3 a0_4 a0_5 a0_6) else (policy_Right.j2 kj7 (decide (a0_6 > 64)) a0_0 a0_1 l0_2 a0_3 a0_4 a0_5 a0_6)) = some r := by rw [if_neg (show ¬ (false = true) by decide)] at H; exact H
              clear H
              have H := H1
              clear H1
              have HC13 := Aside0.mk H
              clear H
              go_upto_region 5 with (fail)
              go_cut [26] (fun v26 wc => ∃ (kq : Nat) (x26_12 : Bool), v26 = .bool x26_12 ∧ Aside0 (policy_Right.j2 kq x26_12 a0_0 a0_1 l0_2 a0_3 a0_4 a0_5 a0_6 = some r) ∧ Aside0 (kq ≤ kj7) ∧ Aside0 (wc.heap[gb317]? = some (.cells #[.int .u16 a0_0, .int .i64 a0_1, (.slice A0_2 l0_2.length c0_2), .int .i64 a0_3, .string a0_4, .int .i64 a0_5, .int .i64 a0_6] 44 (0, 0))) ∧ Aside0 (Below w.heap.size w wc))
              case first =>
                have H := HC13.out
                clear HC13
                by_cases c14 : a0_6 < 1
                · rw [if_pos c14] at H
                  have c14b0 : decide (a0_6 < 1) = true := decide_eq_true c14
                  clear c14
                  (first | rw [c14b0] | (simp only [i64_w, i32_w]; rw [c14b0]) | skip)
                  have H' := Aside0.mk H
                  clear H
                  have hcz15_0 : wc.cell? ⟨gb317, 0, none⟩ = some (.int .u16 a0_0) := (blk_cell BK317.out 0).trans rfl
                  have hcz15_1 : wc.cell? ⟨gb317, 1, none⟩ = some (.int .i64 a0_1) := (blk_cell BK317.out 1).trans rfl
                  have hcz15_2 : wc.cell? ⟨gb317, 2, none⟩ = some (.slice A0_2 l0_2.length c0_2) := (blk_cell BK317.out 2).trans rfl
                  have hcz15_3 : wc.cell? ⟨gb317, 3, none⟩ = some (.int .i64 a0_3) := (blk_cell BK317.out 3).trans rfl
                  have hcz15_4 : wc.cell? ⟨gb317, 4, none⟩ = some (.string a0_4) := (blk_cell BK317.out 4).trans rfl
                  have hcz15_5 : wc.cell? ⟨gb317, 5, none⟩ = some (.int .i64 a0_5) := (blk_cell BK317.out 5).trans rfl
                  have hcz15_6 : wc.cell? ⟨gb317, 6, none⟩ = some (.int .i64 a0_6) := (blk_cell BK317.out 6).trans rfl
                  have hfz15_0 := blk_frozen BK317.out 0
                  have hfz15_1 := blk_frozen BK317.out 1
                  have hfz15_2 := blk_frozen BK317.out 2
                  have hfz15_3 := blk_frozen BK317.out 3
                  have hfz15_4 := blk_frozen BK317.out 4
                  have hfz15_5 := blk_frozen BK317.out 5
                  have hfz15_6 := blk_frozen BK317.out 6
                  go_wp2
                  go_meet
                  case rel => exact ⟨_, (true), (by first | rfl | (simp; done) | (simp [*]; done)), H', ⟨by have := HJ1.out; have := HJ7.out; first | omega | exact Nat.le_refl _⟩, ⟨by (with_reducible repeat (first | refine blk_drewN ?_ _ | refine blk_drew ?_ | refine blk_alloc ?_ _)); exact BK317.out⟩, ⟨by repeat (first | (with_reducible first | exact HB.out | apply below_alloc | apply pw_below_drewN | apply below_drew1 | refine below_set ?_ GE317.out) | exact HB.out)⟩⟩
                · rw [if_neg c14] at H
                  have c14b0 : decide (a0_6 < 1) = false := decide_eq_false c14
                  clear c14
                  (first | rw [c14b0] | (simp only [i64_w, i32_w]; rw [c14b0]) | skip)
                  have H' := Aside0.mk H
                  clear H
                  have hcz16_0 : wc.cell? ⟨gb317, 0, none⟩ = some (.int .u16 a0_0) := (blk_cell BK317.out 0).trans rfl
                  have hcz16_1 : wc.cell? ⟨gb317, 1, none⟩ = some (.int .i64 a0_1) := (blk_cell BK317.out 1).trans rfl
                  have hcz16_2 : wc.cell? ⟨gb317, 2, none⟩ = some (.slice A0_2 l0_2.length c0_2) := (blk_cell BK317.out 2).trans rfl
                  have hcz16_3 : wc.cell? ⟨gb317, 3, none⟩ = some (.int .i64 a0_3) := (blk_cell BK317.out 3).trans rfl
                  have hcz16_4 : wc.cell? ⟨gb317, 4, none⟩ = some (.string a0_4) := (blk_cell BK317.out 4).trans rfl
                  have hcz16_5 : wc.cell? ⟨gb317, 5, none⟩ = some (.int .i64 a0_5) := (blk_cell BK317.out 5).trans rfl
                  have hcz16_6 : wc.cell? ⟨gb317, 6, none⟩ = some (.int .i64 a0_6) := (blk_cell BK317.out 6).trans rfl
                  have hfz16_0 := blk_frozen BK317.out 0
                  have hfz16_1 := blk_frozen BK317.out 1
                  have hfz16_2 := blk_frozen BK317.out 2
                  have hfz16_3 := blk_frozen BK317.out 3
                  have hfz16_4 := blk_frozen BK317.out 4
                  have hfz16_5 := blk_frozen BK317.out 5
                  have hfz16_6 := blk_frozen BK317.out 6
                  go_wp2
                  go_meet
                  case rel => exact ⟨_, (decide (a0_6 > 64)), (by first | rfl | (simp; done) | (simp [*]; done)), H', ⟨by have := HJ1.out; have := HJ7.out; first | omega | exact Nat.le_refl _⟩, ⟨by (with_reducible repeat (first | refine blk_drewN ?_ _ | refine blk_drew ?_ | refine blk_alloc ?_ _)); exact BK317.out⟩, ⟨by repeat (first | (with_reducible first | exact HB.out | apply below_alloc | apply pw_below_drewN | apply below_drew1 | refine below_set ?_ GE317.out) | exact HB.out)⟩⟩
              case rest =>
                clear HC13
                try clear c1
                try clear p2
                try clear c4
                try clear c4b0
                try clear c4b1
                try clear c6
                try clear c7
                try clear c9
                try clear c9b0
                try clear c12
                try clear c14
                try clear c14b0
                try clear hcz10_0
                try clear hcz10_1
                try clear hcz10_2
                try clear hcz10_3
                try clear hcz10_4
                try clear hcz10_5
                try clear hcz10_6
                try clear hcz11_0
                try clear hcz11_1
                try clear hcz11_2
                try clear hcz11_3
                try clear hcz11_4
                try clear hcz11_5
                try clear hcz11_6
                try clear hcz15_0
                try clear hcz15_1
                try clear hcz15_2
                try clear hcz15_3
                try clear hcz15_4
                try clear hcz15_5
                try clear hcz15_6
                try clear hcz16_0
                try clear hcz16_1
                try clear hcz16_2
                try clear hcz16_3
                try clear hcz16_4
                try clear hcz16_5
                try clear hcz16_6
                try clear hcz5_0
                try clear hcz5_1
                try clear hcz5_2
                try clear hcz5_3
                try clear hcz5_4
                try clear hcz5_5
                try clear hcz5_6
                try clear hcz6_0
                try clear hcz6_1
                try clear hcz6_2
                try clear hcz6_3
                try clear hcz6_4
                try clear hcz6_5
                try clear hcz6_6
                try clear hfz10_0
                try clear hfz10_1
                try clear hfz10_2
                try clear hfz10_3
                try clear hfz10_4
                try clear hfz10_5
                try clear hfz10_6
                try clear hfz11_0
                try clear hfz11_1
                try clear hfz11_2
                try clear hfz11_3
                try clear hfz11_4
                try clear hfz11_5
                try clear hfz11_6
                try clear hfz15_0
                try clear hfz15_1
                try clear hfz15_2
                try clear hfz15_3
                try clear hfz15_4
                try clear hfz15_5
                try clear hfz15_6
                try clear hfz16_0
                try clear hfz16_1
                try clear hfz16_2
                try clear hfz16_3
                try clear hfz16_4
                try clear hfz16_5
                try clear hfz16_6
                try clear hfz5_0
                try clear hfz5_1
                try clear hfz5_2
                try clear hfz5_3
                try clear hfz5_4
                try clear hfz5_5
                try clear hfz5_6
                try clear hfz6_0
                try clear hfz6_1
                try clear hfz6_2
                try clear hfz6_3
                try clear hfz6_4
                try clear hfz6_5
                try clear hfz6_6
                try clear p2
                obtain ⟨kq, x26_12, rfl, HA, HJ12, BK317, HB⟩ := hcut
                cases kq with
                | zero => exact absurd HA.out (by simp [policy_Right.j2])
                | succ kj12 =>
                  have H := HA.out
                  clear HA
                  simp only [policy_Right.j2] at H
                  by_cases c17 : x26_12 = true
                  · subst c17
                    have H1 : (some 221) = some r := by rw [if_pos rfl] at H; exact H
                    clear H
                    have H := H1
                    clear H1
                    obtain rfl := Option.some.inj H
                    go_wp2
                    go_ret
                    exact ⟨by first | rfl | (simp [errW_none, errW_some] <;> rfl) | (simp [*, errW_none, errW_some] <;> rfl), by repeat (first | (with_reducible first | exact HB.out | apply below_alloc | apply pw_below_drewN | apply below_drew1 | refine below_set ?_ GE317.out) | exact HB.out)⟩
                  · replace c17 := Bool.eq_false_iff.mpr c17
                    subst c17
                    have H1 : (if (l0_2.length : Int) > 32 then (some 192) else (if a0_4.toList = ([] : List UInt8) then (some 0) else ((path_IsClean.f kj12 a0_4).bind fun t318 => (if t318 = true then (some 0) else (some 192))))) = some r := by rw [if_neg (show ¬ (false = true) by decide)] at H; exact H
                    clear H
                    have H := H1
                    clear H1
                    by_cases c18 : (l0_2.length : Int) > 32
                    · rw [if_pos c18] at H
                      have c18b0 : decide (32 < (l0_2.length : Int)) = true := decide_eq_true c18
                      have c18b1 : decide (32 < l0_2.length) = true := decide_eq_true (by omega)
                      clear c18
                      obtain rfl := Option.some.inj H
                      have hcz19_0 : wc.cell? ⟨gb317, 0, none⟩ = some (.int .u16 a0_0) := (blk_cell BK317.out 0).trans rfl
                      have hcz19_1 : wc.cell? ⟨gb317, 1, none⟩ = some (.int .i64 a0_1) := (blk_cell BK317.out 1).trans rfl
                      have hcz19_2 : wc.cell? ⟨gb317, 2, none⟩ = some (.slice A0_2 l0_2.length c0_2) := (blk_cell BK317.out 2).trans rfl
                      have hcz19_3 : wc.cell? ⟨gb317, 3, none⟩ = some (.int .i64 a0_3) := (blk_cell BK317.out 3).trans rfl
                      have hcz19_4 : wc.cell? ⟨gb317, 4, none⟩ = some (.string a0_4) := (blk_cell BK317.out 4).trans rfl
                      have hcz19_5 : wc.cell? ⟨gb317, 5, none⟩ = some (.int .i64 a0_5) := (blk_cell BK317.out 5).trans rfl
                      have hcz19_6 : wc.cell? ⟨gb317, 6, none⟩ = some (.int .i64 a0_6) := (blk_cell BK317.out 6).trans rfl
                      have hfz19_0 := blk_frozen BK317.out 0
                      have hfz19_1 := blk_frozen BK317.out 1
                      have hfz19_2 := blk_frozen BK317.out 2
                      have hfz19_3 := blk_frozen BK317.out 3
                      have hfz19_4 := blk_frozen BK317.out 4
                      have hfz19_5 := blk_frozen BK317.out 5
                      have hfz19_6 := blk_frozen BK317.out 6
                      go_wp2
                      go_ret
                      exact ⟨by first | rfl | (simp [errW_none, errW_some] <;> rfl) | (simp [*, errW_none, errW_some] <;> rfl), by repeat (first | (with_reducible first | exact HB.out | apply below_alloc | apply pw_below_drewN | apply below_drew1 | refine below_set ?_ GE317.out) | exact HB.out)⟩
                    · rw [if_neg c18] at H
                      have c18b0 : decide (32 < (l0_2.length : Int)) = false := decide_eq_false c18
                      have c18b1 : decide (32 < l0_2.length) = false := decide_eq_false (by omega)
                      clear c18
                      by_cases c20 : a0_4.toList = ([] : List UInt8)
                      · rw [if_pos c20] at H
                        have c20b0 : (a0_4.toList == ([] : List UInt8)) = true := beq_iff_eq.mpr c20
                        have c20b1 : (a0_4.toList != ([] : List UInt8)) = false := bne_eq_false_iff_eq.mpr c20
                        clear c20
                        obtain rfl := Option.some.inj H
                        have hcz21_0 : wc.cell? ⟨gb317, 0, none⟩ = some (.int .u16 a0_0) := (blk_cell BK317.out 0).trans rfl
                        have hcz21_1 : wc.cell? ⟨gb317, 1, none⟩ = some (.int .i64 a0_1) := (blk_cell BK317.out 1).trans rfl
                        have hcz21_2 : wc.cell? ⟨gb317, 2, none⟩ = some (.slice A0_2 l0_2.length c0_2) := (blk_cell BK317.out 2).trans rfl
                        have hcz21_3 : wc.cell? ⟨gb317, 3, none⟩ = some (.int .i64 a0_3) := (blk_cell BK317.out 3).trans rfl
                        have hcz21_4 : wc.cell? ⟨gb317, 4, none⟩ = some (.string a0_4) := (blk_cell BK317.out 4).trans rfl
                        have hcz21_5 : wc.cell? ⟨gb317, 5, none⟩ = some (.int .i64 a0_5) := (blk_cell BK317.out 5).trans rfl
                        have hcz21_6 : wc.cell? ⟨gb317, 6, none⟩ = some (.int .i64 a0_6) := (blk_cell BK317.out 6).trans rfl
                        have hfz21_0 := blk_frozen BK317.out 0
                        have hfz21_1 := blk_frozen BK317.out 1
                        have hfz21_2 := blk_frozen BK317.out 2
                        have hfz21_3 := blk_frozen BK317.out 3
                        have hfz21_4 := blk_frozen BK317.out 4
                        have hfz21_5 := blk_frozen BK317.out 5
                        have hfz21_6 := blk_frozen BK317.out 6
                        go_wp2
                        go_ret
                        exact ⟨by first | rfl | (simp [errW_none, errW_some] <;> rfl) | (simp [*, errW_none, errW_some] <;> rfl), by repeat (first | (with_reducible first | exact HB.out | apply below_alloc | apply pw_below_drewN | apply below_drew1 | refine below_set ?_ GE317.out) | exact HB.out)⟩
                      · rw [if_neg c20] at H
                        have c20b0 : (a0_4.toList == ([] : List UInt8)) = false := beq_eq_false_iff_ne.mpr c20
                        have c20b1 : (a0_4.toList != ([] : List UInt8)) = true := bne_iff_ne.mpr c20
                        replace H := Option.bind_eq_some_iff.mp H
                        obtain ⟨t318, A220, H⟩ := H
                        replace H : (if t318 = true then (some 0) else (some 192)) = some r := H
                        have A22 := Aside0.mk A220
                        clear A220
                        by_cases c23 : t318 = true
                        · subst c23
                          have H1 : (some 0) = some r := by rw [if_pos rfl] at H; exact H
                          clear H
                          have H := H1
                          clear H1
                          obtain rfl := Option.some.inj H
                          have hcz24_0 : wc.cell? ⟨gb317, 0, none⟩ = some (.int .u16 a0_0) := (blk_cell BK317.out 0).trans rfl
                          have hcz24_1 : wc.cell? ⟨gb317, 1, none⟩ = some (.int .i64 a0_1) := (blk_cell BK317.out 1).trans rfl
                          have hcz24_2 : wc.cell? ⟨gb317, 2, none⟩ = some (.slice A0_2 l0_2.length c0_2) := (blk_cell BK317.out 2).trans rfl
                          have hcz24_3 : wc.cell? ⟨gb317, 3, none⟩ = some (.int .i64 a0_3) := (blk_cell BK317.out 3).trans rfl
                          have hcz24_4 : wc.cell? ⟨gb317, 4, none⟩ = some (.string a0_4) := (blk_cell BK317.out 4).trans rfl
                          have hcz24_5 : wc.cell? ⟨gb317, 5, none⟩ = some (.int .i64 a0_5) := (blk_cell BK317.out 5).trans rfl
                          have hcz24_6 : wc.cell? ⟨gb317, 6, none⟩ = some (.int .i64 a0_6) := (blk_cell BK317.out 6).trans rfl
                          have hfz24_0 := blk_frozen BK317.out 0
                          have hfz24_1 := blk_frozen BK317.out 1
                          have hfz24_2 := blk_frozen BK317.out 2
                          have hfz24_3 := blk_frozen BK317.out 3
                          have hfz24_4 := blk_frozen BK317.out 4
                          have hfz24_5 := blk_frozen BK317.out 5
                          have hfz24_6 := blk_frozen BK317.out 6
                          go_wp2_with (first | (go_at_call 22; (with_reducible refine (path_IsClean.calls kj12 a0_4 true _ ?side1 A22.out).mono ?_); (case side1 => exact SH.below HSH.out (by repeat (first | (with_reducible first | exact HB.out | apply below_alloc | apply pw_below_drewN | apply below_drew1 | refine below_set ?_ GE317.out) | exact HB.out))); rintro e w25 ⟨rfl, hb⟩; have n0_ := Aside0.mk (blk_below (g := gb317) (o := .cells #[.int .u16 a0_0, .int .i64 a0_1, .slice A0_2 l0_2.length c0_2, .int .i64 a0_3, .string a0_4, .int .i64 a0_5, .int .i64 a0_6] 44 (0, 0)) (by (with_reducible repeat (first | refine blk_drewN ?_ _ | refine blk_drew ?_ | refine blk_alloc ?_ _)); exact BK317.out) hb); have n1_ := Aside0.mk (below_step (by repeat (first | (with_reducible first | exact HB.out | apply below_alloc | apply pw_below_drewN | apply below_drew1 | refine below_set ?_ GE317.out) | exact HB.out)) hb); clear BK317; clear HB; have BK317 := n0_; have HB := n1_; clear n0_ n1_; (try clear hb); (try clear hb2); (try clear hk); (try clear hi)))
                          go_ret
                          exact ⟨by first | rfl | (simp [errW_none, errW_some] <;> rfl) | (simp [*, errW_none, errW_some] <;> rfl), by repeat (first | (with_reducible first | exact HB.out | apply below_alloc | apply pw_below_drewN | apply below_drew1 | refine below_set ?_ GE317.out) | exact HB.out)⟩
                        · replace c23 := Bool.eq_false_iff.mpr c23
                          subst c23
                          have H1 : (some 192) = some r := by rw [if_neg (show ¬ (false = true) by decide)] at H; exact H
                          clear H
                          have H := H1
                          clear H1
                          obtain rfl := Option.some.inj H
                          have hcz26_0 : wc.cell? ⟨gb317, 0, none⟩ = some (.int .u16 a0_0) := (blk_cell BK317.out 0).trans rfl
                          have hcz26_1 : wc.cell? ⟨gb317, 1, none⟩ = some (.int .i64 a0_1) := (blk_cell BK317.out 1).trans rfl
                          have hcz26_2 : wc.cell? ⟨gb317, 2, none⟩ = some (.slice A0_2 l0_2.length c0_2) := (blk_cell BK317.out 2).trans rfl
                          have hcz26_3 : wc.cell? ⟨gb317, 3, none⟩ = some (.int .i64 a0_3) := (blk_cell BK317.out 3).trans rfl
                          have hcz26_4 : wc.cell? ⟨gb317, 4, none⟩ = some (.string a0_4) := (blk_cell BK317.out 4).trans rfl
                          have hcz26_5 : wc.cell? ⟨gb317, 5, none⟩ = some (.int .i64 a0_5) := (blk_cell BK317.out 5).trans rfl
                          have hcz26_6 : wc.cell? ⟨gb317, 6, none⟩ = some (.int .i64 a0_6) := (blk_cell BK317.out 6).trans rfl
                          have hfz26_0 := blk_frozen BK317.out 0
                          have hfz26_1 := blk_frozen BK317.out 1
                          have hfz26_2 := blk_frozen BK317.out 2
                          have hfz26_3 := blk_frozen BK317.out 3
                          have hfz26_4 := blk_frozen BK317.out 4
                          have hfz26_5 := blk_frozen BK317.out 5
                          have hfz26_6 := blk_frozen BK317.out 6
                          go_wp2_with (first | (go_at_call 22; (with_reducible refine (path_IsClean.calls kj12 a0_4 false _ ?side1 A22.out).mono ?_); (case side1 => exact SH.below HSH.out (by repeat (first | (with_reducible first | exact HB.out | apply below_alloc | apply pw_below_drewN | apply below_drew1 | refine below_set ?_ GE317.out) | exact HB.out))); rintro e w27 ⟨rfl, hb⟩; have n0_ := Aside0.mk (blk_below (g := gb317) (o := .cells #[.int .u16 a0_0, .int .i64 a0_1, .slice A0_2 l0_2.length c0_2, .int .i64 a0_3, .string a0_4, .int .i64 a0_5, .int .i64 a0_6] 44 (0, 0)) (by (with_reducible repeat (first | refine blk_drewN ?_ _ | refine blk_drew ?_ | refine blk_alloc ?_ _)); exact BK317.out) hb); have n1_ := Aside0.mk (below_step (by repeat (first | (with_reducible first | exact HB.out | apply below_alloc | apply pw_below_drewN | apply below_drew1 | refine below_set ?_ GE317.out) | exact HB.out)) hb); clear BK317; clear HB; have BK317 := n0_; have HB := n1_; clear n0_ n1_; (try clear hb); (try clear hb2); (try clear hk); (try clear hi)))
                          go_ret
                          exact ⟨by first | rfl | (simp [errW_none, errW_some] <;> rfl) | (simp [*, errW_none, errW_some] <;> rfl), by repeat (first | (with_reducible first | exact HB.out | apply below_alloc | apply pw_below_drewN | apply below_drew1 | refine below_set ?_ GE317.out) | exact HB.out)⟩

end Go.Proofs.YtbkhkdadipigfaaDoor.P
