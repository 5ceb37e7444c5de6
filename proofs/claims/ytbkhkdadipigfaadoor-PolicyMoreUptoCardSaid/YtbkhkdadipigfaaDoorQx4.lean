/- For functions of this seat: a plain Lean function each, and the proof that the call answers so; written by a program of this session out of the translation. No condition beyond those that stand in each theorem. -/
import Derived.Test.YtbkhkdadipigfaaDoorQx0
import Derived.Test.YtbkhkdadipigfaaDoorQx1
import Derived.Test.YtbkhkdadipigfaaDoorQx3
namespace Go.Proofs.YtbkhkdadipigfaaDoor.Q
open Go.RowKit Go.Proofs.YtbkhkdadipigfaaDoorW.PrintWords Go.Proofs.YtbkhkdadipigfaaDoorW.PrintLast Go.Proofs.YtbkhkdadipigfaaDoorW.PrintMore
attribute [local go_sem] max2_int min2_int max_two min_two max_three min_three max_four min_four   -- for this text's walks alone
set_option linter.unusedVariables false
set_option linter.unusedSimpArgs false

/-! ### messuagelaw20_alive: function 39 -/
def messuagelaw20_alive.f (k : Nat)  : Option (Bool) := (policy_Child.f k (⟨#[47, 108, 105, 98, 47, 97, 46, 115, 111]⟩ : ByteArray) (⟨#[47, 108, 105, 98]⟩ : ByteArray)).bind fun t149 => (if t149 = true then ((policy_Child.f k (⟨#[47, 108, 105, 98, 47, 120, 47, 97, 46, 115, 111]⟩ : ByteArray) (⟨#[47, 108, 105, 98]⟩ : ByteArray)).bind fun t150 => (if t150 = true then (some false) else ((policy_Under.f (⟨#[47, 108, 105, 98, 47, 120, 47, 97, 46, 115, 111]⟩ : ByteArray) (⟨#[47, 108, 105, 98]⟩ : ByteArray)).bind fun t151 => (if t151 = true then ((policy_Under.f (⟨#[47, 97, 46, 97, 112, 107, 33, 47, 108, 105, 98, 47, 120, 46, 115, 111]⟩ : ByteArray) (⟨#[47]⟩ : ByteArray)).bind fun t152 => (if t152 = true then ((policy_Child.f k (⟨#[47, 97, 46, 97, 112, 107, 33, 47, 108, 105, 98, 47, 120, 46, 115, 111]⟩ : ByteArray) (⟨#[47, 97, 46, 97, 112, 107, 33, 47, 108, 105, 98]⟩ : ByteArray)).bind fun t153 => (if t153 = true then ((policy_Right.f k 0 0 ([] : List ByteArray) 0 (⟨#[]⟩ : ByteArray) 0 0).bind fun t154 => (some (t154 == 83))) else (some false))) else (some false))) else (some false))))) else (some false))
theorem messuagelaw20_alive.mono : ∀ k, LeO (messuagelaw20_alive.f k ) (messuagelaw20_alive.f (k + 1) ) := by
  intro  k
  unfold messuagelaw20_alive.f
  repeat' first
      | (with_reducible exact policy_Child.mono _ _ _)
      | (with_reducible exact policy_Right.mono _ _ _ _ _ _ _ _)
      | (with_reducible exact LeO.refl _)
      | (with_reducible exact LeO.none _)
      | (with_reducible refine LeO.ite ?_ ?_)
      | (with_reducible refine LeO.bind ?_ (fun _ => ?_))
      | exact policy_Child.mono _ _ _
      | exact policy_Right.mono _ _ _ _ _ _ _ _
      | exact LeO.none _
      | refine LeO.ite ?_ ?_
      | refine LeO.bind ?_ (fun _ => ?_)
set_option maxHeartbeats 8000000 in
set_option maxRecDepth 100000 in
theorem messuagelaw20_alive.calls (k : Nat)  (r : Bool) (w : World) (hsh : SH w) (h : messuagelaw20_alive.f k  = some r) :
    Calls Tryd.prog 39 #[] w fun e w' => e = .returned (.bool r) ∧ Below w.heap.size w w' := by
  have hu44 := Tryd.underlying44
  have HSH := Aside0.mk hsh
  clear hsh
  have HB := Aside0.mk (Below.refl w.heap.size w)
  have H : ((policy_Child.f k (⟨#[47, 108, 105, 98, 47, 97, 46, 115, 111]⟩ : ByteArray) (⟨#[47, 108, 105, 98]⟩ : ByteArray)).bind fun t149 => (if t149 = true then ((policy_Child.f k (⟨#[47, 108, 105, 98, 47, 120, 47, 97, 46, 115, 111]⟩ : ByteArray) (⟨#[47, 108, 105, 98]⟩ : ByteArray)).bind fun t150 => (if t150 = true then (some false) else ((policy_Under.f (⟨#[47, 108, 105, 98, 47, 120, 47, 97, 46, 115, 111]⟩ : ByteArray) (⟨#[47, 108, 105, 98]⟩ : ByteArray)).bind fun t151 => (if t151 = true then ((policy_Under.f (⟨#[47, 97, 46, 97, 112, 107, 33, 47, 108, 105, 98, 47, 120, 46, 115, 111]⟩ : ByteArray) (⟨#[47]⟩ : ByteArray)).bind fun t152 => (if t152 = true then ((policy_Child.f k (⟨#[47, 97, 46, 97, 112, 107, 33, 47, 108, 105, 98, 47, 120, 46, 115, 111]⟩ : ByteArray) (⟨#[47, 97, 46, 97, 112, 107, 33, 47, 108, 105, 98]⟩ : ByteArray)).bind fun t153 => (if t153 = true then ((policy_Right.f k 0 0 ([] : List ByteArray) 0 (⟨#[]⟩ : ByteArray) 0 0).bind fun t154 => (some (t154 == 83))) else (some false))) else (some false))) else (some false))))) else (some false))) = some r := h
  clear h
  replace H := Option.bind_eq_some_iff.mp H
  obtain ⟨t149, A10, H⟩ := H
  replace H : (if t149 = true then ((policy_Child.f k (⟨#[47, 108, 105, 98, 47, 120, 47, 97, 46, 115, 111]⟩ : ByteArray) (⟨#[47, 108, 105, 98]⟩ : ByteArray)).bind fun t150 => (if t150 = true then (some false) else ((policy_Under.f (⟨#[47, 108, 105, 98, 47, 120, 47, 97, 46, 115, 111]⟩ : ByteArray) (⟨#[47, 108, 105, 98]⟩ : ByteArray)).bind fun t151 => (if t151 = true then ((policy_Under.f (⟨#[47, 97, 46, 97, 112, 107, 33, 47, 108, 105, 98, 47, 120, 46, 115, 111]⟩ : ByteArray) (⟨#[47]⟩ : ByteArray)).bind fun t152 => (if t152 = true then ((policy_Child.f k (⟨#[47, 97, 46, 97, 112, 107, 33, 47, 108, 105, 98, 47, 120, 46, 115, 111]⟩ : ByteArray) (⟨#[47, 97, 46, 97, 112, 107, 33, 47, 108, 105, 98]⟩ : ByteArray)).bind fun t153 => (if t153 = true then ((policy_Right.f k 0 0 ([] : List ByteArray) 0 (⟨#[]⟩ : ByteArray) 0 0).bind fun t154 => (some (t154 == 83))) else (some false))) else (some false))) else (some false))))) else (some false)) = some r := H
  have A1 := Aside0.mk A10
  clear A10
  by_cases c2 : t149 = true
  · subst c2
    have H1 : ((policy_Child.f k (⟨#[47, 108, 105, 98, 47, 120, 47, 97, 46, 115, 111]⟩ : ByteArray) (⟨#[47, 108, 105, 98]⟩ : ByteArray)).bind fun t150 => (if t150 = true then (some false) else ((policy_Under.f (⟨#[47, 108, 105, 98, 47, 120, 47, 97, 46, 115, 111]⟩ : ByteArray) (⟨#[47, 108, 105, 98]⟩ : ByteArray)).bind fun t151 => (if t151 = true then ((policy_Under.f (⟨#[47, 97, 46, 97, 112, 107, 33, 47, 108, 105, 98, 47, 120, 46, 115, 111]⟩ : ByteArray) (⟨#[47]⟩ : ByteArray)).bind fun t152 => (if t152 = true then ((policy_Child.f k (⟨#[47, 97, 46, 97, 112, 107, 33, 47, 108, 105, 98, 47, 120, 46, 115, 111]⟩ : ByteArray) (⟨#[47, 97, 46, 97, 112, 107, 33, 47, 108, 105, 98]⟩ : ByteArray)).bind fun t153 => (if t153 = true then ((policy_Right.f k 0 0 ([] : List ByteArray) 0 (⟨#[]⟩ : ByteArray) 0 0).bind fun t154 => (some (t154 == 83))) else (some false))) else (some false))) else (some false))))) = some r := by rw [if_pos rfl] at H; exact H
    clear H
    have H := H1
    clear H1
    replace H := Option.bind_eq_some_iff.mp H
    obtain ⟨t150, A30, H⟩ := H
    replace H : (if t150 = true then (some false) else ((policy_Under.f (⟨#[47, 108, 105, 98, 47, 120, 47, 97, 46, 115, 111]⟩ : ByteArray) (⟨#[47, 108, 105, 98]⟩ : ByteArray)).bind fun t151 => (if t151 = true then ((policy_Under.f (⟨#[47, 97, 46, 97, 112, 107, 33, 47, 108, 105, 98, 47, 120, 46, 115, 111]⟩ : ByteArray) (⟨#[47]⟩ : ByteArray)).bind fun t152 => (if t152 = true then ((policy_Child.f k (⟨#[47, 97, 46, 97, 112, 107, 33, 47, 108, 105, 98, 47, 120, 46, 115, 111]⟩ : ByteArray) (⟨#[47, 97, 46, 97, 112, 107, 33, 47, 108, 105, 98]⟩ : ByteArray)).bind fun t153 => (if t153 = true then ((policy_Right.f k 0 0 ([] : List ByteArray) 0 (⟨#[]⟩ : ByteArray) 0 0).bind fun t154 => (some (t154 == 83))) else (some false))) else (some false))) else (some false)))) = some r := H
    have A3 := Aside0.mk A30
    clear A30
    by_cases c4 : t150 = true
    · subst c4
      have H1 : (some false) = some r := by rw [if_pos rfl] at H; exact H
      clear H
      have H := H1
      clear H1
      obtain rfl := Option.some.inj H
      go_enter Tryd.func39, Tryd.ntmps39
      go_wp2_with (first | ((with_reducible refine gate_callee (f := 35) rfl ?_); refine goesL_ (some 1) rfl rfl Tryd.func35 (by kernel_rfl) rfl #[.string (⟨#[47, 108, 105, 98, 47, 97, 46, 115, 111]⟩ : ByteArray), .string (⟨#[47, 108, 105, 98]⟩ : ByteArray)] rfl (by (try simp only [List.map_toArray, List.map_cons, List.map_nil]); first | done | rfl | (simp only [List.length_drop, List.length_take]; rfl)) ?_; (with_reducible refine (policy_Child.calls k (⟨#[47, 108, 105, 98, 47, 97, 46, 115, 111]⟩ : ByteArray) (⟨#[47, 108, 105, 98]⟩ : ByteArray) true _ ?side1 A1.out).mono ?_); (case side1 => exact SH.below HSH.out (by repeat (first | (with_reducible first | exact HB.out | apply below_alloc | apply pw_below_drewN | apply below_drew1) | exact HB.out))); rintro e w5 ⟨rfl, hb⟩; refine ⟨_, rfl, ?_⟩; have n0_ := Aside0.mk (below_step (by repeat (first | (with_reducible first | exact HB.out | apply below_alloc | apply pw_below_drewN | apply below_drew1) | exact HB.out)) hb); clear HB; have HB := n0_; clear n0_; (try clear hb); (try clear hb2); (try clear hk); (try clear hi)) | (go_at_call 35; (with_reducible refine (policy_Child.calls k (⟨#[47, 108, 105, 98, 47, 120, 47, 97, 46, 115, 111]⟩ : ByteArray) (⟨#[47, 108, 105, 98]⟩ : ByteArray) true _ ?side1 A3.out).mono ?_); (case side1 => exact SH.below HSH.out (by repeat (first | (with_reducible first | exact HB.out | apply below_alloc | apply pw_below_drewN | apply below_drew1) | exact HB.out))); rintro e w6 ⟨rfl, hb⟩; have n0_ := Aside0.mk (below_step (by repeat (first | (with_reducible first | exact HB.out | apply below_alloc | apply pw_below_drewN | apply below_drew1) | exact HB.out)) hb); clear HB; have HB := n0_; clear n0_; (try clear hb); (try clear hb2); (try clear hk); (try clear hi)))
      go_ret
      exact ⟨by first | rfl | (simp [errW_none, errW_some] <;> rfl) | (simp [*, errW_none, errW_some] <;> rfl), by repeat (first | (with_reducible first | exact HB.out | apply below_alloc | apply pw_below_drewN | apply below_drew1) | exact HB.out)⟩
    · replace c4 := Bool.eq_false_iff.mpr c4
      subst c4
      have H1 : ((policy_Under.f (⟨#[47, 108, 105, 98, 47, 120, 47, 97, 46, 115, 111]⟩ : ByteArray) (⟨#[47, 108, 105, 98]⟩ : ByteArray)).bind fun t151 => (if t151 = true then ((policy_Under.f (⟨#[47, 97, 46, 97, 112, 107, 33, 47, 108, 105, 98, 47, 120, 46, 115, 111]⟩ : ByteArray) (⟨#[47]⟩ : ByteArray)).bind fun t152 => (if t152 = true then ((policy_Child.f k (⟨#[47, 97, 46, 97, 112, 107, 33, 47, 108, 105, 98, 47, 120, 46, 115, 111]⟩ : ByteArray) (⟨#[47, 97, 46, 97, 112, 107, 33, 47, 108, 105, 98]⟩ : ByteArray)).bind fun t153 => (if t153 = true then ((policy_Right.f k 0 0 ([] : List ByteArray) 0 (⟨#[]⟩ : ByteArray) 0 0).bind fun t154 => (some (t154 == 83))) else (some false))) else (some false))) else (some false))) = some r := by rw [if_neg (show ¬ (false = true) by decide)] at H; exact H
      clear H
      have H := H1
      clear H1
      replace H := Option.bind_eq_some_iff.mp H
      obtain ⟨t151, A70, H⟩ := H
      replace H : (if t151 = true then ((policy_Under.f (⟨#[47, 97, 46, 97, 112, 107, 33, 47, 108, 105, 98, 47, 120, 46, 115, 111]⟩ : ByteArray) (⟨#[47]⟩ : ByteArray)).bind fun t152 => (if t152 = true then ((policy_Child.f k (⟨#[47, 97, 46, 97, 112, 107, 33, 47, 108, 105, 98, 47, 120, 46, 115, 111]⟩ : ByteArray) (⟨#[47, 97, 46, 97, 112, 107, 33, 47, 108, 105, 98]⟩ : ByteArray)).bind fun t153 => (if t153 = true then ((policy_Right.f k 0 0 ([] : List ByteArray) 0 (⟨#[]⟩ : ByteArray) 0 0).bind fun t154 => (some (t154 == 83))) else (some false))) else (some false))) else (some false)) = some r := H
      have A7 := Aside0.mk A70
      clear A70
      by_cases c8 : t151 = true
      · subst c8
        have H1 : ((policy_Under.f (⟨#[47, 97, 46, 97, 112, 107, 33, 47, 108, 105, 98, 47, 120, 46, 115, 111]⟩ : ByteArray) (⟨#[47]⟩ : ByteArray)).bind fun t152 => (if t152 = true then ((policy_Child.f k (⟨#[47, 97, 46, 97, 112, 107, 33, 47, 108, 105, 98, 47, 120, 46, 115, 111]⟩ : ByteArray) (⟨#[47, 97, 46, 97, 112, 107, 33, 47, 108, 105, 98]⟩ : ByteArray)).bind fun t153 => (if t153 = true then ((policy_Right.f k 0 0 ([] : List ByteArray) 0 (⟨#[]⟩ : ByteArray) 0 0).bind fun t154 => (some (t154 == 83))) else (some false))) else (some false))) = some r := by rw [if_pos rfl] at H; exact H
        clear H
        have H := H1
        clear H1
        replace H := Option.bind_eq_some_iff.mp H
        obtain ⟨t152, A90, H⟩ := H
        replace H : (if t152 = true then ((policy_Child.f k (⟨#[47, 97, 46, 97, 112, 107, 33, 47, 108, 105, 98, 47, 120, 46, 115, 111]⟩ : ByteArray) (⟨#[47, 97, 46, 97, 112, 107, 33, 47, 108, 105, 98]⟩ : ByteArray)).bind fun t153 => (if t153 = true then ((policy_Right.f k 0 0 ([] : List ByteArray) 0 (⟨#[]⟩ : ByteArray) 0 0).bind fun t154 => (some (t154 == 83))) else (some false))) else (some false)) = some r := H
        have A9 := Aside0.mk A90
        clear A90
        by_cases c10 : t152 = true
        · subst c10
          have H1 : ((policy_Child.f k (⟨#[47, 97, 46, 97, 112, 107, 33, 47, 108, 105, 98, 47, 120, 46, 115, 111]⟩ : ByteArray) (⟨#[47, 97, 46, 97, 112, 107, 33, 47, 108, 105, 98]⟩ : ByteArray)).bind fun t153 => (if t153 = true then ((policy_Right.f k 0 0 ([] : List ByteArray) 0 (⟨#[]⟩ : ByteArray) 0 0).bind fun t154 => (some (t154 == 83))) else (some false))) = some r := by rw [if_pos rfl] at H; exact H
          clear H
          have H := H1
          clear H1
          replace H := Option.bind_eq_some_iff.mp H
          obtain ⟨t153, A110, H⟩ := H
          replace H : (if t153 = true then ((policy_Right.f k 0 0 ([] : List ByteArray) 0 (⟨#[]⟩ : ByteArray) 0 0).bind fun t154 => (some (t154 == 83))) else (some false)) = some r := H
          have A11 := Aside0.mk A110
          clear A110
          by_cases c12 : t153 = true
          · subst c12
            have H1 : ((policy_Right.f k 0 0 ([] : List ByteArray) 0 (⟨#[]⟩ : ByteArray) 0 0).bind fun t154 => (some (t154 == 83))) = some r := by rw [if_pos rfl] at H; exact H
            clear H
            have H := H1
            clear H1
            replace H := Option.bind_eq_some_iff.mp H
            obtain ⟨t154, A130, H⟩ := H
            replace H : (some (t154 == 83)) = some r := H
            have A13 := Aside0.mk A130
            clear A130
            obtain rfl := Option.some.inj H
            go_enter Tryd.func39, Tryd.ntmps39
            go_wp2_with (first | ((with_reducible refine gate_callee (f := 35) rfl ?_); refine goesL_ (some 1) rfl rfl Tryd.func35 (by kernel_rfl) rfl #[.string (⟨#[47, 108, 105, 98, 47, 97, 46, 115, 111]⟩ : ByteArray), .string (⟨#[47, 108, 105, 98]⟩ : ByteArray)] rfl (by (try simp only [List.map_toArray, List.map_cons, List.map_nil]); first | done | rfl | (simp only [List.length_drop, List.length_take]; rfl)) ?_; (with_reducible refine (policy_Child.calls k (⟨#[47, 108, 105, 98, 47, 97, 46, 115, 111]⟩ : ByteArray) (⟨#[47, 108, 105, 98]⟩ : ByteArray) true _ ?side1 A1.out).mono ?_); (case side1 => exact SH.below HSH.out (by repeat (first | (with_reducible first | exact HB.out | apply below_alloc | apply pw_below_drewN | apply below_drew1) | exact HB.out))); rintro e w14 ⟨rfl, hb⟩; refine ⟨_, rfl, ?_⟩; have n0_ := Aside0.mk (below_step (by repeat (first | (with_reducible first | exact HB.out | apply below_alloc | apply pw_below_drewN | apply below_drew1) | exact HB.out)) hb); clear HB; have HB := n0_; clear n0_; (try clear hb); (try clear hb2); (try clear hk); (try clear hi)) | (go_at_call 35; (with_reducible refine (policy_Child.calls k (⟨#[47, 108, 105, 98, 47, 120, 47, 97, 46, 115, 111]⟩ : ByteArray) (⟨#[47, 108, 105, 98]⟩ : ByteArray) false _ ?side1 A3.out).mono ?_); (case side1 => exact SH.below HSH.out (by repeat (first | (with_reducible first | exact HB.out | apply below_alloc | apply pw_below_drewN | apply below_drew1) | exact HB.out))); rintro e w15 ⟨rfl, hb⟩; have n0_ := Aside0.mk (below_step (by repeat (first | (with_reducible first | exact HB.out | apply below_alloc | apply pw_below_drewN | apply below_drew1) | exact HB.out)) hb); clear HB; have HB := n0_; clear n0_; (try clear hb); (try clear hb2); (try clear hk); (try clear hi)) | (go_at_call 37; (with_reducible refine (policy_Under.calls (⟨#[47, 108, 105, 98, 47, 120, 47, 97, 46, 115, 111]⟩ : ByteArray) (⟨#[47, 108, 105, 98]⟩ : ByteArray) true _ ?side1 A7.out).mono ?_); (case side1 => exact SH.below HSH.out (by repeat (first | (with_reducible first | exact HB.out | apply below_alloc | apply pw_below_drewN | apply below_drew1) | exact HB.out))); rintro e w16 ⟨rfl, hb⟩; have n0_ := Aside0.mk (below_step (by repeat (first | (with_reducible first | exact HB.out | apply below_alloc | apply pw_below_drewN | apply below_drew1) | exact HB.out)) hb); clear HB; have HB := n0_; clear n0_; (try clear hb); (try clear hb2); (try clear hk); (try clear hi)) | (go_at_call 37; (with_reducible refine (policy_Under.calls (⟨#[47, 97, 46, 97, 112, 107, 33, 47, 108, 105, 98, 47, 120, 46, 115, 111]⟩ : ByteArray) (⟨#[47]⟩ : ByteArray) true _ ?side1 A9.out).mono ?_); (case side1 => exact SH.below HSH.out (by repeat (first | (with_reducible first | exact HB.out | apply below_alloc | apply pw_below_drewN | apply below_drew1) | exact HB.out))); rintro e w17 ⟨rfl, hb⟩; have n0_ := Aside0.mk (below_step (by repeat (first | (with_reducible first | exact HB.out | apply below_alloc | apply pw_below_drewN | apply below_drew1) | exact HB.out)) hb); clear HB; have HB := n0_; clear n0_; (try clear hb); (try clear hb2); (try clear hk); (try clear hi)) | (go_at_call 35; (with_reducible refine (policy_Child.calls k (⟨#[47, 97, 46, 97, 112, 107, 33, 47, 108, 105, 98, 47, 120, 46, 115, 111]⟩ : ByteArray) (⟨#[47, 97, 46, 97, 112, 107, 33, 47, 108, 105, 98]⟩ : ByteArray) true _ ?side1 A11.out).mono ?_); (case side1 => exact SH.below HSH.out (by repeat (first | (with_reducible first | exact HB.out | apply below_alloc | apply pw_below_drewN | apply below_drew1) | exact HB.out))); rintro e w18 ⟨rfl, hb⟩; have n0_ := Aside0.mk (below_step (by repeat (first | (with_reducible first | exact HB.out | apply below_alloc | apply pw_below_drewN | apply below_drew1) | exact HB.out)) hb); clear HB; have HB := n0_; clear n0_; (try clear hb); (try clear hb2); (try clear hk); (try clear hi)) | (go_at_call 61; (refine (policy_Right.calls k 0 0 _ _ ([] : List ByteArray) 0 (⟨#[]⟩ : ByteArray) 0 0 t154 _ ?side1 ?side2 ?side3 A13.out).mono ?_); (case side1 => exact SH.below HSH.out (by repeat (first | (with_reducible first | exact HB.out | apply below_alloc | apply pw_below_drewN | apply below_drew1) | exact HB.out))); (case side2 => exact Kd.C_nil _ _); (case side3 => exact Nat.le_refl _); rintro e w19 ⟨rfl, hb⟩; have n0_ := Aside0.mk (below_step (by repeat (first | (with_reducible first | exact HB.out | apply below_alloc | apply pw_below_drewN | apply below_drew1) | exact HB.out)) hb); clear HB; have HB := n0_; clear n0_; (try clear hb); (try clear hb2); (try clear hk); (try clear hi)))
            go_ret
            exact ⟨by first | rfl | (simp [errW_none, errW_some] <;> rfl) | (simp [*, errW_none, errW_some] <;> rfl), by repeat (first | (with_reducible first | exact HB.out | apply below_alloc | apply pw_below_drewN | apply below_drew1) | exact HB.out)⟩
          · replace c12 := Bool.eq_false_iff.mpr c12
            subst c12
            have H1 : (some false) = some r := by rw [if_neg (show ¬ (false = true) by decide)] at H; exact H
            clear H
            have H := H1
            clear H1
            obtain rfl := Option.some.inj H
            go_enter Tryd.func39, Tryd.ntmps39
            go_wp2_with (first | ((with_reducible refine gate_callee (f := 35) rfl ?_); refine goesL_ (some 1) rfl rfl Tryd.func35 (by kernel_rfl) rfl #[.string (⟨#[47, 108, 105, 98, 47, 97, 46, 115, 111]⟩ : ByteArray), .string (⟨#[47, 108, 105, 98]⟩ : ByteArray)] rfl (by (try simp only [List.map_toArray, List.map_cons, List.map_nil]); first | done | rfl | (simp only [List.length_drop, List.length_take]; rfl)) ?_; (with_reducible refine (policy_Child.calls k (⟨#[47, 108, 105, 98, 47, 97, 46, 115, 111]⟩ : ByteArray) (⟨#[47, 108, 105, 98]⟩ : ByteArray) true _ ?side1 A1.out).mono ?_); (case side1 => exact SH.below HSH.out (by repeat (first | (with_reducible first | exact HB.out | apply below_alloc | apply pw_below_drewN | apply below_drew1) | exact HB.out))); rintro e w20 ⟨rfl, hb⟩; refine ⟨_, rfl, ?_⟩; have n0_ := Aside0.mk (below_step (by repeat (first | (with_reducible first | exact HB.out | apply below_alloc | apply pw_below_drewN | apply below_drew1) | exact HB.out)) hb); clear HB; have HB := n0_; clear n0_; (try clear hb); (try clear hb2); (try clear hk); (try clear hi)) | (go_at_call 35; (with_reducible refine (policy_Child.calls k (⟨#[47, 108, 105, 98, 47, 120, 47, 97, 46, 115, 111]⟩ : ByteArray) (⟨#[47, 108, 105, 98]⟩ : ByteArray) false _ ?side1 A3.out).mono ?_); (case side1 => exact SH.below HSH.out (by repeat (first | (with_reducible first | exact HB.out | apply below_alloc | apply pw_below_drewN | apply below_drew1) | exact HB.out))); rintro e w21 ⟨rfl, hb⟩; have n0_ := Aside0.mk (below_step (by repeat (first | (with_reducible first | exact HB.out | apply below_alloc | apply pw_below_drewN | apply below_drew1) | exact HB.out)) hb); clear HB; have HB := n0_; clear n0_; (try clear hb); (try clear hb2); (try clear hk); (try clear hi)) | (go_at_call 37; (with_reducible refine (policy_Under.calls (⟨#[47, 108, 105, 98, 47, 120, 47, 97, 46, 115, 111]⟩ : ByteArray) (⟨#[47, 108, 105, 98]⟩ : ByteArray) true _ ?side1 A7.out).mono ?_); (case side1 => exact SH.below HSH.out (by repeat (first | (with_reducible first | exact HB.out | apply below_alloc | apply pw_below_drewN | apply below_drew1) | exact HB.out))); rintro e w22 ⟨rfl, hb⟩; have n0_ := Aside0.mk (below_step (by repeat (first | (with_reducible first | exact HB.out | apply below_alloc | apply pw_below_drewN | apply below_drew1) | exact HB.out)) hb); clear HB; have HB := n0_; clear n0_; (try clear hb); (try clear hb2); (try clear hk); (try clear hi)) | (go_at_call 37; (with_reducible refine (policy_Under.calls (⟨#[47, 97, 46, 97, 112, 107, 33, 47, 108, 105, 98, 47, 120, 46, 115, 111]⟩ : ByteArray) (⟨#[47]⟩ : ByteArray) true _ ?side1 A9.out).mono ?_); (case side1 => exact SH.below HSH.out (by repeat (first | (with_reducible first | exact HB.out | apply below_alloc | apply pw_below_drewN | apply below_drew1) | exact HB.out))); rintro e w23 ⟨rfl, hb⟩; have n0_ := Aside0.mk (below_step (by repeat (first | (with_reducible first | exact HB.out | apply below_alloc | apply pw_below_drewN | apply below_drew1) | exact HB.out)) hb); clear HB; have HB := n0_; clear n0_; (try clear hb); (try clear hb2); (try clear hk); (try clear hi)) | (go_at_call 35; (with_reducible refine (policy_Child.calls k (⟨#[47, 97, 46, 97, 112, 107, 33, 47, 108, 105, 98, 47, 120, 46, 115, 111]⟩ : ByteArray) (⟨#[47, 97, 46, 97, 112, 107, 33, 47, 108, 105, 98]⟩ : ByteArray) false _ ?side1 A11.out).mono ?_); (case side1 => exact SH.below HSH.out (by repeat (first | (with_reducible first | exact HB.out | apply below_alloc | apply pw_below_drewN | apply below_drew1) | exact HB.out))); rintro e w24 ⟨rfl, hb⟩; have n0_ := Aside0.mk (below_step (by repeat (first | (with_reducible first | exact HB.out | apply below_alloc | apply pw_below_drewN | apply below_drew1) | exact HB.out)) hb); clear HB; have HB := n0_; clear n0_; (try clear hb); (try clear hb2); (try clear hk); (try clear hi)))
            go_ret
            exact ⟨by first | rfl | (simp [errW_none, errW_some] <;> rfl) | (simp [*, errW_none, errW_some] <;> rfl), by repeat (first | (with_reducible first | exact HB.out | apply below_alloc | apply pw_below_drewN | apply below_drew1) | exact HB.out)⟩
        · replace c10 := Bool.eq_false_iff.mpr c10
          subst c10
          have H1 : (some false) = some r := by rw [if_neg (show ¬ (false = true) by decide)] at H; exact H
          clear H
          have H := H1
          clear H1
          obtain rfl := Option.some.inj H
          go_enter Tryd.func39, Tryd.ntmps39
          go_wp2_with (first | ((with_reducible refine gate_callee (f := 35) rfl ?_); refine goesL_ (some 1) rfl rfl Tryd.func35 (by kernel_rfl) rfl #[.string (⟨#[47, 108, 105, 98, 47, 97, 46, 115, 111]⟩ : ByteArray), .string (⟨#[47, 108, 105, 98]⟩ : ByteArray)] rfl (by (try simp only [List.map_toArray, List.map_cons, List.map_nil]); first | done | rfl | (simp only [List.length_drop, List.length_take]; rfl)) ?_; (with_reducible refine (policy_Child.calls k (⟨#[47, 108, 105, 98, 47, 97, 46, 115, 111]⟩ : ByteArray) (⟨#[47, 108, 105, 98]⟩ : ByteArray) true _ ?side1 A1.out).mono ?_); (case side1 => exact SH.below HSH.out (by repeat (first | (with_reducible first | exact HB.out | apply below_alloc | apply pw_below_drewN | apply below_drew1) | exact HB.out))); rintro e w25 ⟨rfl, hb⟩; refine ⟨_, rfl, ?_⟩; have n0_ := Aside0.mk (below_step (by repeat (first | (with_reducible first | exact HB.out | apply below_alloc | apply pw_below_drewN | apply below_drew1) | exact HB.out)) hb); clear HB; have HB := n0_; clear n0_; (try clear hb); (try clear hb2); (try clear hk); (try clear hi)) | (go_at_call 35; (with_reducible refine (policy_Child.calls k (⟨#[47, 108, 105, 98, 47, 120, 47, 97, 46, 115, 111]⟩ : ByteArray) (⟨#[47, 108, 105, 98]⟩ : ByteArray) false _ ?side1 A3.out).mono ?_); (case side1 => exact SH.below HSH.out (by repeat (first | (with_reducible first | exact HB.out | apply below_alloc | apply pw_below_drewN | apply below_drew1) | exact HB.out))); rintro e w26 ⟨rfl, hb⟩; have n0_ := Aside0.mk (below_step (by repeat (first | (with_reducible first | exact HB.out | apply below_alloc | apply pw_below_drewN | apply below_drew1) | exact HB.out)) hb); clear HB; have HB := n0_; clear n0_; (try clear hb); (try clear hb2); (try clear hk); (try clear hi)) | (go_at_call 37; (with_reducible refine (policy_Under.calls (⟨#[47, 108, 105, 98, 47, 120, 47, 97, 46, 115, 111]⟩ : ByteArray) (⟨#[47, 108, 105, 98]⟩ : ByteArray) true _ ?side1 A7.out).mono ?_); (case side1 => exact SH.below HSH.out (by repeat (first | (with_reducible first | exact HB.out | apply below_alloc | apply pw_below_drewN | apply below_drew1) | exact HB.out))); rintro e w27 ⟨rfl, hb⟩; have n0_ := Aside0.mk (below_step (by repeat (first | (with_reducible first | exact HB.out | apply below_alloc | apply pw_below_drewN | apply below_drew1) | exact HB.out)) hb); clear HB; have HB := n0_; clear n0_; (try clear hb); (try clear hb2); (try clear hk); (try clear hi)) | (go_at_call 37; (with_reducible refine (policy_Under.calls (⟨#[47, 97, 46, 97, 112, 107, 33, 47, 108, 105, 98, 47, 120, 46, 115, 111]⟩ : ByteArray) (⟨#[47]⟩ : ByteArray) false _ ?side1 A9.out).mono ?_); (case side1 => exact SH.below HSH.out (by repeat (first | (with_reducible first | exact HB.out | apply below_alloc | apply pw_below_drewN | apply below_drew1) | exact HB.out))); rintro e w28 ⟨rfl, hb⟩; have n0_ := Aside0.mk (below_step (by repeat (first | (with_reducible first | exact HB.out | apply below_alloc | apply pw_below_drewN | apply below_drew1) | exact HB.out)) hb); clear HB; have HB := n0_; clear n0_; (try clear hb); (try clear hb2); (try clear hk); (try clear hi)))
          go_ret
          exact ⟨by first | rfl | (simp [errW_none, errW_some] <;> rfl) | (simp [*, errW_none, errW_some] <;> rfl), by repeat (first | (with_reducible first | exact HB.out | apply below_alloc | apply pw_below_drewN | apply below_drew1) | exact HB.out)⟩
      · replace c8 := Bool.eq_false_iff.mpr c8
        subst c8
        have H1 : (some false) = some r := by rw [if_neg (show ¬ (false = true) by decide)] at H; exact H
        clear H
        have H := H1
        clear H1
        obtain rfl := Option.some.inj H
        go_enter Tryd.func39, Tryd.ntmps39
        go_wp2_with (first | ((with_reducible refine gate_callee (f := 35) rfl ?_); refine goesL_ (some 1) rfl rfl Tryd.func35 (by kernel_rfl) rfl #[.string (⟨#[47, 108, 105, 98, 47, 97, 46, 115, 111]⟩ : ByteArray), .string (⟨#[47, 108, 105, 98]⟩ : ByteArray)] rfl (by (try simp only [List.map_toArray, List.map_cons, List.map_nil]); first | done | rfl | (simp only [List.length_drop, List.length_take]; rfl)) ?_; (with_reducible refine (policy_Child.calls k (⟨#[47, 108, 105, 98, 47, 97, 46, 115, 111]⟩ : ByteArray) (⟨#[47, 108, 105, 98]⟩ : ByteArray) true _ ?side1 A1.out).mono ?_); (case side1 => exact SH.below HSH.out (by repeat (first | (with_reducible first | exact HB.out | apply below_alloc | apply pw_below_drewN | apply below_drew1) | exact HB.out))); rintro e w29 ⟨rfl, hb⟩; refine ⟨_, rfl, ?_⟩; have n0_ := Aside0.mk (below_step (by repeat (first | (with_reducible first | exact HB.out | apply below_alloc | apply pw_below_drewN | apply below_drew1) | exact HB.out)) hb); clear HB; have HB := n0_; clear n0_; (try clear hb); (try clear hb2); (try clear hk); (try clear hi)) | (go_at_call 35; (with_reducible refine (policy_Child.calls k (⟨#[47, 108, 105, 98, 47, 120, 47, 97, 46, 115, 111]⟩ : ByteArray) (⟨#[47, 108, 105, 98]⟩ : ByteArray) false _ ?side1 A3.out).mono ?_); (case side1 => exact SH.below HSH.out (by repeat (first | (with_reducible first | exact HB.out | apply below_alloc | apply pw_below_drewN | apply below_drew1) | exact HB.out))); rintro e w30 ⟨rfl, hb⟩; have n0_ := Aside0.mk (below_step (by repeat (first | (with_reducible first | exact HB.out | apply below_alloc | apply pw_below_drewN | apply below_drew1) | exact HB.out)) hb); clear HB; have HB := n0_; clear n0_; (try clear hb); (try clear hb2); (try clear hk); (try clear hi)) | (go_at_call 37; (with_reducible refine (policy_Under.calls (⟨#[47, 108, 105, 98, 47, 120, 47, 97, 46, 115, 111]⟩ : ByteArray) (⟨#[47, 108, 105, 98]⟩ : ByteArray) false _ ?side1 A7.out).mono ?_); (case side1 => exact SH.below HSH.out (by repeat (first | (with_reducible first | exact HB.out | apply below_alloc | apply pw_below_drewN | apply below_drew1) | exact HB.out))); rintro e w31 ⟨rfl, hb⟩; have n0_ := Aside0.mk (below_step (by repeat (first | (with_reducible first | exact HB.out | apply below_alloc | apply pw_below_drewN | apply below_drew1) | exact HB.out)) hb); clear HB; have HB := n0_; clear n0_; (try clear hb); (try clear hb2); (try clear hk); (try clear hi)))
        go_ret
        exact ⟨by first | rfl | (simp [errW_none, errW_some] <;> rfl) | (simp [*, errW_none, errW_some] <;> rfl), by repeat (first | (with_reducible first | exact HB.out | apply below_alloc | apply pw_below_drewN | apply below_drew1) | exact HB.out)⟩
  · replace c2 := Bool.eq_false_iff.mpr c2
    subst c2
    have H1 : (some false) = some r := by rw [if_neg (show ¬ (false = true) by decide)] at H; exact H
    clear H
    have H := H1
    clear H1
    obtain rfl := Option.some.inj H
    go_enter Tryd.func39, Tryd.ntmps39
    go_wp2_with (first | ((with_reducible refine gate_callee (f := 35) rfl ?_); refine goesL_ (some 1) rfl rfl Tryd.func35 (by kernel_rfl) rfl #[.string (⟨#[47, 108, 105, 98, 47, 97, 46, 115, 111]⟩ : ByteArray), .string (⟨#[47, 108, 105, 98]⟩ : ByteArray)] rfl (by (try simp only [List.map_toArray, List.map_cons, List.map_nil]); first | done | rfl | (simp only [List.length_drop, List.length_take]; rfl)) ?_; (with_reducible refine (policy_Child.calls k (⟨#[47, 108, 105, 98, 47, 97, 46, 115, 111]⟩ : ByteArray) (⟨#[47, 108, 105, 98]⟩ : ByteArray) false _ ?side1 A1.out).mono ?_); (case side1 => exact SH.below HSH.out (by repeat (first | (with_reducible first | exact HB.out | apply below_alloc | apply pw_below_drewN | apply below_drew1) | exact HB.out))); rintro e w32 ⟨rfl, hb⟩; refine ⟨_, rfl, ?_⟩; have n0_ := Aside0.mk (below_step (by repeat (first | (with_reducible first | exact HB.out | apply below_alloc | apply pw_below_drewN | apply below_drew1) | exact HB.out)) hb); clear HB; have HB := n0_; clear n0_; (try clear hb); (try clear hb2); (try clear hk); (try clear hi)))
    go_ret
    exact ⟨by first | rfl | (simp [errW_none, errW_some] <;> rfl) | (simp [*, errW_none, errW_some] <;> rfl), by repeat (first | (with_reducible first | exact HB.out | apply below_alloc | apply pw_below_drewN | apply below_drew1) | exact HB.out)⟩

end Go.Proofs.YtbkhkdadipigfaaDoor.Q
